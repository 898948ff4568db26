/- What functions of the program compute: forest40p -/
import Derived.Test.YtkgemkadebgeoaaFacts
import Derived.Test.YtkgemkadebgeoaaProg
import Derived.KernelRfl
set_option linter.unusedVariables false
set_option linter.unusedSimpArgs false
namespace Go.Proofs.Ytkgemkadebgeoaa
namespace A

structure Edge where
  a : Int
  b : Int
  c : Int
  deriving DecidableEq, Inhabited
def edgeC (e : Edge) : List AV := [.int e.a, .int e.b, .int e.c]
def edgeB (e : Edge) : Bool := decide (1 ≤ e.a) && decide (e.a < e.b) && decide (e.b ≤ 64) && decide (1 ≤ e.c) && decide (e.c ≤ 1073741824)
def ltE (x y : Edge) : Prop := x.a < y.a ∨ x.a = y.a ∧ x.b < y.b
instance (x y : Edge) : Decidable (ltE x y) := by unfold ltE; infer_instance
def ahead (x y : Edge) : Bool := if x.c ≠ y.c then decide (x.c < y.c) else decide (x.a < y.a) || (decide (x.a = y.a) && decide (x.b < y.b))
/-- Edges from a place on, behind the one ahead of it. -/
def edgesB : Option Edge → List Edge → Bool
  | _, [] => true
  | p, e :: l => edgeB e && (match p with | none => true | some q => decide (ltE q e)) && edgesB (some e) l
theorem edgesB_all : ∀ {l : List Edge} {p : Option Edge}, edgesB p l = true → ∀ e ∈ l, edgeB e = true
  | [], _, _, e, he => by simp at he
  | x :: l, p, h, e, he => by
    simp only [edgesB, Bool.and_eq_true] at h
    rcases List.mem_cons.1 he with rfl | he
    · exact h.1.1
    · exact edgesB_all h.2 e he
theorem ltE_trans {x y z : Edge} (h1 : ltE x y) (h2 : ltE y z) : ltE x z := by unfold ltE at *; omega
theorem ltE_irrefl {x : Edge} (h : ltE x x) : False := by unfold ltE at h; omega
theorem edgesB_lt : ∀ {l : List Edge} {q : Edge}, edgesB (some q) l = true → (q :: l).Pairwise ltE
  | [], q, _ => by simp
  | x :: l, q, h => by
    simp only [edgesB, Bool.and_eq_true, decide_eq_true_eq] at h
    have ih := edgesB_lt h.2
    refine List.pairwise_cons.2 ⟨fun y hy => ?_, ih⟩
    rcases List.mem_cons.1 hy with rfl | hy
    · exact h.1.2
    · exact ltE_trans h.1.2 ((List.pairwise_cons.1 ih).1 y hy)
theorem edgesB_sorted {l : List Edge} (h : edgesB none l = true) : l.Pairwise ltE := by
  cases l with
  | nil => exact .nil
  | cons x l =>
    simp only [edgesB, Bool.and_eq_true] at h
    exact edgesB_lt h.2
theorem edgesB_of : ∀ {l : List Edge} {p : Option Edge}, (∀ e ∈ l, edgeB e = true) → (∀ q, p = some q → (q :: l).Pairwise ltE) → l.Pairwise ltE → edgesB p l = true
  | [], _, _, _, _ => rfl
  | x :: l, p, h1, h2, h3 => by
    simp only [edgesB, Bool.and_eq_true]
    refine ⟨⟨h1 x (by simp), ?_⟩, edgesB_of (fun e he => h1 e (by simp [he])) (fun q hq => by cases hq; exact h3) (List.pairwise_cons.1 h3).2⟩
    cases p with
    | none => rfl
    | some q => exact decide_eq_true ((List.pairwise_cons.1 (h2 q rfl)).1 x (by simp))
theorem edgeB_mk {e : Edge} (h : edgeB e = true) : 1 ≤ e.a ∧ e.a < e.b ∧ e.b ≤ 64 ∧ 1 ≤ e.c ∧ e.c ≤ 1073741824 := by
  simp only [edgeB, Bool.and_eq_true, decide_eq_true_eq] at h
  omega
theorem ltE_nodup {l : List Edge} (h : l.Pairwise ltE) : l.Nodup := h.imp (fun h e => by subst e; exact ltE_irrefl h)

/-! ### What hangs together -/
inductive Conn (E : Edge → Prop) : Int → Int → Prop
  | refl (n : Int) : Conn E n n
  | up {n m : Int} {e : Edge} : Conn E n m → E e → e.a = m → Conn E n e.b
  | down {n m : Int} {e : Edge} : Conn E n m → E e → e.b = m → Conn E n e.a
theorem Conn.mono {E E' : Edge → Prop} (h : ∀ e, E e → E' e) {a b : Int} (k : Conn E a b) : Conn E' a b := by
  induction k with
  | refl => exact .refl _
  | up _ he hm ih => exact .up ih (h _ he) hm
  | down _ he hm ih => exact .down ih (h _ he) hm
theorem Conn.trans {E : Edge → Prop} {a b c : Int} (k : Conn E a b) (k2 : Conn E b c) : Conn E a c := by
  induction k2 with
  | refl => exact k
  | up _ he hm ih => exact .up ih he hm
  | down _ he hm ih => exact .down ih he hm
theorem Conn.edge {E : Edge → Prop} {e : Edge} (h : E e) : Conn E e.a e.b := .up (.refl _) h rfl
theorem Conn.edge' {E : Edge → Prop} {e : Edge} (h : E e) : Conn E e.b e.a := .down (.refl _) h rfl
theorem Conn.symm {E : Edge → Prop} {a b : Int} (k : Conn E a b) : Conn E b a := by
  induction k with
  | refl => exact .refl _
  | up _ he hm ih => subst hm; exact (Conn.edge' he).trans ih
  | down _ he hm ih => subst hm; exact (Conn.edge he).trans ih
/-- Edges whose ends hang together by others add nothing. -/
theorem Conn.sub {E E' : Edge → Prop} (h : ∀ e, E e → Conn E' e.a e.b) {a b : Int} (k : Conn E a b) : Conn E' a b := by
  induction k with
  | refl => exact .refl _
  | up _ he hm ih => subst hm; exact ih.trans (h _ he)
  | down _ he hm ih => subst hm; exact ih.trans (h _ he).symm
theorem Conn.add {E : Edge → Prop} {e : Edge} {a b : Int} (k : Conn (fun x => E x ∨ x = e) a b) : Conn E a b ∨ (Conn E a e.a ∧ Conn E e.b b) ∨ (Conn E a e.b ∧ Conn E e.a b) := by
  induction k with
  | refl => exact .inl (.refl _)
  | @up m e' _ he hm ih =>
    subst hm
    rcases he with he | rfl
    · rcases ih with h | ⟨h1, h2⟩ | ⟨h1, h2⟩
      · exact .inl (.up h he rfl)
      · exact .inr (.inl ⟨h1, .up h2 he rfl⟩)
      · exact .inr (.inr ⟨h1, .up h2 he rfl⟩)
    · rcases ih with h | ⟨h1, h2⟩ | ⟨h1, h2⟩
      · exact .inr (.inl ⟨h, .refl _⟩)
      · exact .inr (.inl ⟨h1, .refl _⟩)
      · exact .inl h1
  | @down m e' _ he hm ih =>
    subst hm
    rcases he with he | rfl
    · rcases ih with h | ⟨h1, h2⟩ | ⟨h1, h2⟩
      · exact .inl (.down h he rfl)
      · exact .inr (.inl ⟨h1, .down h2 he rfl⟩)
      · exact .inr (.inr ⟨h1, .down h2 he rfl⟩)
    · rcases ih with h | ⟨h1, h2⟩ | ⟨h1, h2⟩
      · exact .inr (.inr ⟨h, .refl _⟩)
      · exact .inl h1
      · exact .inr (.inr ⟨h1, .refl _⟩)

/-! ### Nodes reached, by rounds -/
def rst (ok : Edge → Bool) (f : Int → Bool) (e : Edge) : Int → Bool := if ok e && (f e.a != f e.b) then updF (updF f e.a true) e.b true else f
def rnd (ok : Edge → Bool) (l : List Edge) (f : Int → Bool) : Int → Bool := l.foldl (rst ok) f
def sat (ok : Edge → Bool) (l : List Edge) : Nat → (Int → Bool) → Int → Bool
  | 0, f => f
  | k + 1, f => sat ok l k (rnd ok l f)
def reachF (ok : Edge → Bool) (l : List Edge) (n : Int) (b : Bool) : Int → Bool := sat ok l 65 (updF (fun _ => false) n b)
theorem sat_fix {ok : Edge → Bool} {l : List Edge} {f : Int → Bool} (h : rnd ok l f = f) : ∀ k, sat ok l k f = f
  | 0 => rfl
  | k + 1 => by rw [sat, h]; exact sat_fix h k
theorem rst_le {ok : Edge → Bool} {f : Int → Bool} {e : Edge} {i : Int} (h : f i = true) : rst ok f e i = true := by
  unfold rst
  split
  · simp only [updF]
    split
    · rfl
    · split
      · rfl
      · exact h
  · exact h
theorem rnd_le {ok : Edge → Bool} : ∀ {l : List Edge} {f : Int → Bool} {i : Int}, f i = true → rnd ok l f i = true
  | [], _, _, h => h
  | e :: l, f, i, h => rnd_le (l := l) (rst_le h)
theorem rst_eq {ok : Edge → Bool} {f : Int → Bool} {e : Edge} (h : ∀ i, rst ok f e i = true → f i = true) (ho : ok e = true) : f e.a = f e.b := by
  by_cases hc : f e.a = f e.b
  · exact hc
  · have he : rst ok f e = updF (updF f e.a true) e.b true := by
      unfold rst
      rw [if_pos]
      simp only [ho, Bool.true_and, bne_iff_ne, ne_eq]
      exact hc
    have h1 := h e.a (by rw [he]; simp only [updF]; split <;> simp)
    have h2 := h e.b (by rw [he]; simp)
    rw [h1, h2]
theorem rnd_closed {ok : Edge → Bool} : ∀ {l : List Edge} {f : Int → Bool}, (∀ i, rnd ok l f i = true → f i = true) → ∀ e ∈ l, ok e = true → f e.a = f e.b
  | [], _, _, e, he, _ => by simp at he
  | x :: l, f, h, e, he, ho => by
    have h1 : ∀ i, rst ok f x i = true → f i = true := fun i hi => h i (rnd_le (l := l) hi)
    have h2 : rst ok f x = f := by
      funext i
      cases hf : f i with
      | true => exact rst_le hf
      | false =>
        cases hr : rst ok f x i with
        | false => rfl
        | true => have := h1 i hr; rw [hf] at this; cases this
    rcases List.mem_cons.1 he with rfl | he
    · exact rst_eq h1 ho
    · refine rnd_closed (l := l) (fun i hi => h i ?_) e he ho
      show rnd ok l (rst ok f x) i = true
      rw [h2]
      exact hi
theorem rnd_sound {ok : Edge → Bool} {E : Edge → Prop} {n : Int} : ∀ {l : List Edge} {f : Int → Bool}, (∀ e ∈ l, ok e = true → E e) → (∀ i, f i = true → Conn E n i) → ∀ i, rnd ok l f i = true → Conn E n i
  | [], _, _, h, i, hi => h i hi
  | e :: l, f, hE, h, i, hi => by
    refine rnd_sound (l := l) (fun x hx => hE x (by simp [hx])) (fun j hj => ?_) i hi
    unfold rst at hj
    split at hj
    · rename_i hc
      simp only [Bool.and_eq_true, bne_iff_ne, ne_eq] at hc
      have he := hE e (by simp) hc.1
      have hab : Conn E n e.a ∧ Conn E n e.b := by
        cases ha : f e.a with
        | true => exact ⟨h _ ha, (h _ ha).trans (Conn.edge he)⟩
        | false =>
          cases hb : f e.b with
          | true => exact ⟨(h _ hb).trans (Conn.edge' he), h _ hb⟩
          | false => rw [ha, hb] at hc; exact absurd rfl hc.2
      simp only [updF] at hj
      split at hj
      · rename_i hj2; rw [hj2]; exact hab.2
      · split at hj
        · rename_i hj2; rw [hj2]; exact hab.1
        · exact h j hj
    · exact h j hj
def cntF (f : Int → Bool) : Nat := (List.range 65).countP fun (i : Nat) => f (i : Int)
theorem countP_lt {p q : Nat → Bool} : ∀ {l : List Nat} {i : Nat}, (∀ j, p j = true → q j = true) → i ∈ l → p i = false → q i = true → l.countP p < l.countP q
  | [], _, _, h, _, _ => by simp at h
  | x :: l, i, hm, hi, hp, hq => by
    have hle : l.countP p ≤ l.countP q := List.countP_mono_left (fun j _ => hm j)
    rw [List.countP_cons, List.countP_cons]
    rcases List.mem_cons.1 hi with rfl | hi
    · rw [hp, hq]; simp; omega
    · have := countP_lt hm hi hp hq
      cases hx : p x with
      | true => rw [hm x hx]; simp; omega
      | false => cases q x <;> simp <;> omega
theorem cntF_le (f : Int → Bool) : cntF f ≤ 65 := by
  have := List.countP_le_length (p := fun i : Nat => f (i : Int)) (l := List.range 65)
  simpa [cntF] using this
def EOk (e : Edge) : Prop := 1 ≤ e.a ∧ e.a ≤ 64 ∧ 1 ≤ e.b ∧ e.b ≤ 64
theorem EOk.of {e : Edge} (h : edgeB e = true) : EOk e := by have := edgeB_mk h; unfold EOk; omega
theorem rnd_new {ok : Edge → Bool} : ∀ {l : List Edge} {f : Int → Bool} {i : Int}, (∀ e ∈ l, EOk e) → f i = false → rnd ok l f i = true → 0 ≤ i ∧ i < 65
  | [], f, i, _, h, h2 => by rw [show rnd ok [] f i = f i from rfl, h] at h2; cases h2
  | e :: l, f, i, hl, h, h2 => by
    cases hr : rst ok f e i with
    | false => exact rnd_new (l := l) (fun x hx => hl x (by simp [hx])) hr h2
    | true =>
      have he := hl e (by simp)
      unfold EOk at he
      unfold rst at hr
      split at hr
      · simp only [updF] at hr
        split at hr
        · omega
        · split at hr
          · omega
          · rw [h] at hr; cases hr
      · rw [h] at hr; cases hr
theorem sat_done {ok : Edge → Bool} {l : List Edge} (hl : ∀ e ∈ l, EOk e) : ∀ (k : Nat) (f : Int → Bool), 65 < cntF f + k → rnd ok l (sat ok l k f) = sat ok l k f
  | 0, f, h => by have := cntF_le f; omega
  | k + 1, f, h => by
    by_cases hc : rnd ok l f = f
    · rw [sat_fix hc, hc]
    · refine sat_done hl k (rnd ok l f) ?_
      have : ∃ i, f i = false ∧ rnd ok l f i = true := Classical.byContradiction fun hn => hc (by
        funext i
        cases hf : f i with
        | true => exact rnd_le hf
        | false =>
          cases hr : rnd ok l f i with
          | false => rfl
          | true => exact absurd ⟨i, hf, hr⟩ hn)
      obtain ⟨i, h1, h2⟩ := this
      have hi := rnd_new hl h1 h2
      have : cntF f < cntF (rnd ok l f) := countP_lt (p := fun i : Nat => f (i : Int)) (q := fun i : Nat => rnd ok l f (i : Int)) (i := i.toNat) (fun j => rnd_le) (List.mem_range.2 (by omega)) (by rw [Int.toNat_of_nonneg hi.1]; exact h1) (by rw [Int.toNat_of_nonneg hi.1]; exact h2)
      omega
theorem sat_sound {ok : Edge → Bool} {E : Edge → Prop} {n : Int} {l : List Edge} (hE : ∀ e ∈ l, ok e = true → E e) : ∀ (k : Nat) {f : Int → Bool}, (∀ i, f i = true → Conn E n i) → ∀ i, sat ok l k f i = true → Conn E n i
  | 0, _, h, i, hi => h i hi
  | k + 1, f, h, i, hi => sat_sound hE k (f := rnd ok l f) (rnd_sound hE h) i hi
theorem sat_le {ok : Edge → Bool} {l : List Edge} : ∀ (k : Nat) {f : Int → Bool} {i : Int}, f i = true → sat ok l k f i = true
  | 0, _, _, h => h
  | k + 1, f, i, h => sat_le k (rnd_le h)
theorem reachF_iff {ok : Edge → Bool} {l : List Edge} (hl : ∀ e ∈ l, EOk e) {n : Int} (h0 : 0 ≤ n) (h1 : n ≤ 64) {i : Int} : reachF ok l n true i = true ↔ Conn (fun e => e ∈ l ∧ ok e = true) n i := by
  have hn : updF (fun _ => false) n true n = true := by simp
  constructor
  · intro h
    refine sat_sound (fun e he ho => ⟨he, ho⟩) 65 (fun j hj => ?_) i h
    simp only [updF] at hj
    split at hj
    · rename_i hj2; rw [hj2]; exact .refl _
    · cases hj
  · intro h
    have hc : 0 < cntF (updF (fun _ => false) n true) := by
      unfold cntF
      rw [List.countP_pos_iff]
      exact ⟨n.toNat, List.mem_range.2 (by omega), by rw [Int.toNat_of_nonneg h0]; exact hn⟩
    have hd := sat_done (ok := ok) hl 65 (updF (fun _ => false) n true) (by omega)
    have hcl := rnd_closed (ok := ok) (l := l) (f := reachF ok l n true) (fun i hi => by rw [reachF, hd] at hi; exact hi)
    induction h with
    | refl => exact sat_le 65 hn
    | up _ he hm ih => subst hm; rw [← hcl _ he.1 he.2]; exact ih
    | down _ he hm ih => subst hm; rw [hcl _ he.1 he.2]; exact ih
theorem Conn.range {E : Edge → Prop} (hE : ∀ e, E e → EOk e) {a b : Int} (k : Conn E a b) : a = b ∨ (1 ≤ b ∧ b ≤ 64) := by
  cases k with
  | refl => exact .inl rfl
  | up _ he _ => have := hE _ he; unfold EOk at this; right; omega
  | down _ he _ => have := hE _ he; unfold EOk at this; right; omega

end A
end Go.Proofs.Ytkgemkadebgeoaa
