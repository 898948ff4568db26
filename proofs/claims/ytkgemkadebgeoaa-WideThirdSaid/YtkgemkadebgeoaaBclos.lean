/- What functions of the program compute: clos -/
import Derived.Test.YtkgemkadebgeoaaBgraph24
import Derived.Test.YtkgemkadebgeoaaProg
import Derived.KernelRfl
set_option linter.unusedVariables false
set_option linter.unusedSimpArgs false
namespace Go.Proofs.Ytkgemkadebgeoaa
namespace A

section closure
variable {α : Type} {st : (Int → Bool) → α → Int → Bool}
def rndG (st : (Int → Bool) → α → Int → Bool) (l : List α) (f : Int → Bool) : Int → Bool := l.foldl st f
def satG (st : (Int → Bool) → α → Int → Bool) (l : List α) : Nat → (Int → Bool) → Int → Bool
  | 0, f => f
  | k + 1, f => satG st l k (rndG st l f)
theorem satG_fix {l : List α} {f : Int → Bool} (h : rndG st l f = f) : ∀ k, satG st l k f = f
  | 0 => rfl
  | k + 1 => by rw [satG, h]; exact satG_fix h k
/-- A step takes nothing away, and adds nodes alone. -/
structure StG (st : (Int → Bool) → α → Int → Bool) (l : List α) : Prop where
  le : ∀ f a i, f i = true → st f a i = true
  rng : ∀ f a i, a ∈ l → f i = false → st f a i = true → 0 ≤ i ∧ i < 65
theorem rndG_le (hs : ∀ f a i, f i = true → st f a i = true) : ∀ {l : List α} {f : Int → Bool} {i : Int}, f i = true → rndG st l f i = true
  | [], _, _, h => h
  | e :: l, f, i, h => rndG_le hs (l := l) (hs f e i h)
theorem funB {f g : Int → Bool} (h1 : ∀ i, f i = true → g i = true) (h2 : ∀ i, g i = true → f i = true) : f = g := by
  funext i
  cases hf : f i with
  | true => exact (h1 i hf).symm
  | false =>
    cases hg : g i with
    | false => rfl
    | true => have := h2 i hg; rw [hf] at this; cases this
theorem rndG_closed (hs : ∀ f a i, f i = true → st f a i = true) : ∀ {l : List α} {f : Int → Bool}, rndG st l f = f → ∀ a ∈ l, st f a = f
  | [], _, _, a, ha => by simp at ha
  | x :: l, f, h, a, ha => by
    have h2 : st f x = f := funB (fun i hi => by rw [← h]; exact rndG_le hs (l := l) hi) (fun i hi => hs f x i hi)
    rcases List.mem_cons.1 ha with rfl | ha
    · exact h2
    · refine rndG_closed hs (l := l) ?_ a ha
      show l.foldl st f = f
      have : l.foldl st (st f x) = f := h
      rwa [h2] at this
theorem rndG_sound {C : Int → Prop} : ∀ {l : List α} {f : Int → Bool}, (∀ f a i, a ∈ l → (∀ j, f j = true → C j) → st f a i = true → C i) → (∀ i, f i = true → C i) → ∀ i, rndG st l f i = true → C i
  | [], _, _, h, i, hi => h i hi
  | x :: l, f, hst, h, i, hi => rndG_sound (l := l) (f := st f x) (fun f a i ha => hst f a i (by simp [ha])) (fun j hj => hst f x j (by simp) h hj) i hi
def cntG (f : Int → Bool) : Nat := (List.range 65).countP fun (i : Nat) => f (i : Int)
theorem countP_ltG {p q : Nat → Bool} : ∀ {l : List Nat} {i : Nat}, (∀ j, p j = true → q j = true) → i ∈ l → p i = false → q i = true → l.countP p < l.countP q
  | [], _, _, h, _, _ => by simp at h
  | x :: l, i, hm, hi, hp, hq => by
    have hle : l.countP p ≤ l.countP q := List.countP_mono_left (fun j _ => hm j)
    rw [List.countP_cons, List.countP_cons]
    rcases List.mem_cons.1 hi with rfl | hi
    · rw [hp, hq]; simp; omega
    · have := countP_ltG hm hi hp hq
      cases hx : p x with
      | true => rw [hm x hx]; simp; omega
      | false => cases q x <;> simp <;> omega
theorem cntG_le (f : Int → Bool) : cntG f ≤ 65 := by
  have := List.countP_le_length (p := fun i : Nat => f (i : Int)) (l := List.range 65)
  simpa [cntG] using this
theorem rndG_new {l : List α} (hs : StG st l) : ∀ {m : List α} {f : Int → Bool} {i : Int}, (∀ a ∈ m, a ∈ l) → f i = false → rndG st m f i = true → 0 ≤ i ∧ i < 65
  | [], f, i, _, h, h2 => by rw [show rndG st [] f i = f i from rfl, h] at h2; cases h2
  | e :: m, f, i, hm, h, h2 => by
    cases hr : st f e i with
    | false => exact rndG_new hs (m := m) (fun a ha => hm a (by simp [ha])) hr h2
    | true => exact hs.rng f e i (hm e (by simp)) h hr
theorem satG_done {l : List α} (hs : StG st l) : ∀ (k : Nat) (f : Int → Bool), 65 < cntG f + k → rndG st l (satG st l k f) = satG st l k f
  | 0, f, h => by have := cntG_le f; omega
  | k + 1, f, h => by
    by_cases hc : rndG st l f = f
    · rw [satG_fix hc, hc]
    · refine satG_done hs k (rndG st l f) ?_
      have : ∃ i, f i = false ∧ rndG st l f i = true := Classical.byContradiction fun hn => hc (funB (fun i hi => by
        cases hf : f i with
        | true => rfl
        | false => exact absurd ⟨i, hf, hi⟩ hn) (fun i hi => rndG_le hs.le hi))
      obtain ⟨i, h1, h2⟩ := this
      have hi := rndG_new hs (fun a ha => ha) h1 h2
      have : cntG f < cntG (rndG st l f) := countP_ltG (p := fun i : Nat => f (i : Int)) (q := fun i : Nat => rndG st l f (i : Int)) (i := i.toNat) (fun j => rndG_le hs.le) (List.mem_range.2 (by omega)) (by rw [Int.toNat_of_nonneg hi.1]; exact h1) (by rw [Int.toNat_of_nonneg hi.1]; exact h2)
      omega
theorem satG_le {l : List α} (hs : ∀ f a i, f i = true → st f a i = true) : ∀ (k : Nat) {f : Int → Bool} {i : Int}, f i = true → satG st l k f i = true
  | 0, _, _, h => h
  | k + 1, f, i, h => satG_le hs k (rndG_le hs h)
theorem satG_sound {C : Int → Prop} {l : List α} (hst : ∀ f a i, a ∈ l → (∀ j, f j = true → C j) → st f a i = true → C i) : ∀ (k : Nat) {f : Int → Bool}, (∀ i, f i = true → C i) → ∀ i, satG st l k f i = true → C i
  | 0, _, h, i, hi => h i hi
  | k + 1, f, h, i, hi => satG_sound hst k (f := rndG st l f) (rndG_sound hst h) i hi
theorem cntG_one {f : Int → Bool} {n : Int} (h0 : 0 ≤ n) (h1 : n < 65) (h : f n = true) : 0 < cntG f := by
  unfold cntG
  rw [List.countP_pos_iff]
  exact ⟨n.toNat, List.mem_range.2 (by omega), by rw [Int.toNat_of_nonneg h0]; exact h⟩
end closure

end A
end Go.Proofs.Ytkgemkadebgeoaa
