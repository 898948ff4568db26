/- What functions of the program compute: spf25p -/
import Derived.Test.YtmcannmjielalaaBheap23p
import Derived.Test.YtmcannmjielalaaProg
import Derived.KernelRfl
set_option linter.unusedVariables false
set_option linter.unusedSimpArgs false
namespace Go.Proofs.Ytmcannmjielalaa
namespace A

structure Rt where
  nd : Int
  via : Int
  c : Int
  deriving DecidableEq, Inhabited
/-! ### Walks and their costs -/
inductive Wk (l : List Arc) (r : Int) : Int → Int → Prop
  | refl : Wk l r r 0
  | step {u c : Int} {a : Arc} : Wk l r u c → a ∈ l → a.f = u → Wk l r a.t (c + a.c)
theorem Wk.nn {l : List Arc} (hl : ∀ a ∈ l, AOk a) {r v c : Int} (k : Wk l r v c) : 0 ≤ c := by
  induction k with
  | refl => exact Int.le_refl _
  | step _ ha _ ih => have := hl _ ha; unfold AOk at this; omega
theorem Wk.trans {l : List Arc} {r u v c e : Int} (k : Wk l r u c) (k2 : Wk l u v e) : Wk l r v (c + e) := by
  induction k2 with
  | refl => rw [Int.add_zero]; exact k
  | step _ ha hu ih => rw [← Int.add_assoc]; exact .step ih ha hu
theorem Wk.rng {l : List Arc} (hl : ∀ a ∈ l, AOk a) {r v c : Int} (k : Wk l r v c) : v = r ∨ (1 ≤ v ∧ v ≤ 64 ∧ 1 ≤ c) := by
  cases k with
  | refl => exact .inl rfl
  | step k ha _ => have := k.nn hl; have := hl _ ha; unfold AOk at this; right; omega
theorem Wk.rngR {l : List Arc} (hl : ∀ a ∈ l, AOk a) {r v c : Int} (k : Wk l r v c) : v = r ∨ (1 ≤ r ∧ r ≤ 64) := by
  induction k with
  | refl => exact .inl rfl
  | step k ha hu ih =>
    have := hl _ ha
    unfold AOk at this
    right
    rcases ih with h | h
    · omega
    · exact h
/-! ### Rounds over all arcs -/
abbrev DS := (Int → Bool) × (Int → Int)
def rlx (s : DS) (a : Arc) : DS := if s.1 a.f && (!s.1 a.t || decide (s.2 a.f + a.c < s.2 a.t)) then (updF s.1 a.t true, updF s.2 a.t (s.2 a.f + a.c)) else s
def rndD (l : List Arc) (s : DS) : DS := l.foldl rlx s
def satD (l : List Arc) : Nat → DS → DS
  | 0, s => s
  | k + 1, s => satD l k (rndD l s)
theorem satD_fix {l : List Arc} {s : DS} (h : rndD l s = s) : ∀ k, satD l k s = s
  | 0 => rfl
  | k + 1 => by rw [satD, h]; exact satD_fix h k
def ini (r : Int) : DS := (if 1 ≤ r ∧ r ≤ 64 then updF (fun _ => false) r true else fun _ => false, fun _ => 0)
def bfD (l : List Arc) (r : Int) : DS := satD l 65 (ini r)
def isF (l : List Arc) (r v : Int) : Bool := (bfD l r).1 v
def dF (l : List Arc) (r v : Int) : Int := (bfD l r).2 v
def Dom (s : DS) (v c : Int) : Prop := s.1 v = true ∧ s.2 v ≤ c
structure SInv (l : List Arc) (r : Int) (s : DS) : Prop where
  snd : ∀ v, s.1 v = true → Wk l r v (s.2 v)
  rt : s.1 r = true ∧ s.2 r = 0
theorem rlx_inv {l : List Arc} (hl : ∀ a ∈ l, AOk a) {r : Int} {s : DS} {a : Arc} (ha : a ∈ l) (I : SInv l r s) : SInv l r (rlx s a) := by
  unfold rlx
  split
  · rename_i hc
    simp only [Bool.and_eq_true, Bool.or_eq_true, Bool.not_eq_true', decide_eq_true_eq] at hc
    have hw := I.snd _ hc.1
    have hn := hw.nn hl
    have hok := hl a ha
    unfold AOk at hok
    have hr : a.t ≠ r := fun e => by
      rw [e, I.rt.1, I.rt.2] at hc
      rcases hc.2 with h | h
      · cases h
      · omega
    refine ⟨fun v hv => ?_, ?_, ?_⟩
    · by_cases e : v = a.t
      · subst e
        show Wk l r a.t (updF s.2 a.t _ a.t)
        rw [updF_same]
        exact .step hw ha rfl
      · show Wk l r v (updF s.2 a.t _ v)
        rw [updF_ne _ _ e]
        exact I.snd v (by have h2 : updF s.1 a.t true v = true := hv; rwa [updF_ne _ _ e] at h2)
    · show updF s.1 a.t true r = true
      rw [updF_ne _ _ (fun e => hr e.symm)]; exact I.rt.1
    · show updF s.2 a.t _ r = 0
      rw [updF_ne _ _ (fun e => hr e.symm)]; exact I.rt.2
  · exact I
theorem rlx_dom {s : DS} {a : Arc} {v c : Int} (h : Dom s v c) : Dom (rlx s a) v c := by
  unfold rlx
  split
  · rename_i hc
    simp only [Bool.and_eq_true, Bool.or_eq_true, Bool.not_eq_true', decide_eq_true_eq] at hc
    unfold Dom at *
    by_cases e : v = a.t
    · subst e
      simp only [updF_same]
      refine ⟨trivial, ?_⟩
      rcases hc.2 with h2 | h2
      · rw [h.1] at h2; cases h2
      · omega
    · simp only [updF_ne _ _ e]; exact h
  · exact h
theorem rlx_new {s : DS} {a : Arc} (h : s.1 a.f = true) : Dom (rlx s a) a.t (s.2 a.f + a.c) := by
  unfold rlx Dom
  split
  · simp only [updF_same]; exact ⟨trivial, Int.le_refl _⟩
  · rename_i hc
    simp only [Bool.and_eq_true, Bool.or_eq_true, Bool.not_eq_true', decide_eq_true_eq, h, true_and, not_or] at hc
    refine ⟨by simpa using hc.1, by omega⟩
theorem rnd_inv {l : List Arc} (hl : ∀ a ∈ l, AOk a) {r : Int} : ∀ {m : List Arc} {s : DS}, (∀ a ∈ m, a ∈ l) → SInv l r s → SInv l r (rndD m s)
  | [], s, _, I => I
  | a :: m, s, h, I => rnd_inv hl (m := m) (fun b hb => h b (by simp [hb])) (rlx_inv hl (h a (by simp)) I)
theorem rnd_dom {v c : Int} : ∀ {m : List Arc} {s : DS}, Dom s v c → Dom (rndD m s) v c
  | [], _, h => h
  | a :: m, s, h => rnd_dom (m := m) (rlx_dom h)
/-- What is known of a node is the least. -/
def Lst (l : List Arc) (r : Int) (s : DS) (v : Int) : Prop := s.1 v = true ∧ ∀ c, Wk l r v c → s.2 v ≤ c
theorem Lst.dom {l : List Arc} {r : Int} {s : DS} {v c : Int} (h : Lst l r s v) (k : Wk l r v c) : Dom s v c := ⟨h.1, h.2 c k⟩
theorem lst_of {l : List Arc} {r : Int} {s : DS} {v c : Int} (h : Dom s v c) (hm : ∀ e, Wk l r v e → c ≤ e) : Lst l r s v := ⟨h.1, fun e k => by have := hm e k; have := h.2; omega⟩
theorem rnd_lst {l : List Arc} (hl : ∀ a ∈ l, AOk a) {r u : Int} {s : DS} {m : List Arc} (hm : ∀ a ∈ m, a ∈ l) (I : SInv l r s) (h : Lst l r s u) : Lst l r (rndD m s) u :=
  lst_of (rnd_dom (m := m) ⟨h.1, Int.le_refl _⟩) h.2
theorem rnd_new {l : List Arc} (hl : ∀ a ∈ l, AOk a) {r : Int} {a : Arc} : ∀ {m : List Arc} {s : DS}, (∀ b ∈ m, b ∈ l) → SInv l r s → Lst l r s a.f → a ∈ m → Dom (rndD m s) a.t (s.2 a.f + a.c)
  | [], _, _, _, _, h => by simp at h
  | x :: m, s, hm, I, hf, h => by
    have I' := rlx_inv hl (hm x (by simp)) I
    have hf' : Lst l r (rlx s x) a.f := lst_of (rlx_dom ⟨hf.1, Int.le_refl _⟩) hf.2
    have he : (rlx s x).2 a.f = s.2 a.f := by
      have h1 := hf'.2 _ (I.snd _ hf.1)
      have h2 := hf.2 _ (I'.snd _ hf'.1)
      omega
    rcases List.mem_cons.1 h with rfl | h
    · exact rnd_dom (m := m) (rlx_new hf.1)
    · have := rnd_new hl (m := m) (s := rlx s x) (fun b hb => hm b (by simp [hb])) I' hf' h
      rwa [he] at this
/-- The least cost there is. -/
theorem least_int {p : Int → Prop} {c : Int} (h0 : ∀ c, p c → 0 ≤ c) (h : p c) : ∃ c, p c ∧ ∀ e, p e → c ≤ e := by
  have : ∀ (n : Nat) (c : Int), c.toNat ≤ n → p c → ∃ c, p c ∧ ∀ e, p e → c ≤ e := fun n => by
    induction n with
    | zero => intro c hc hp; exact ⟨c, hp, fun e he => by have := h0 e he; have := h0 c hp; omega⟩
    | succ n ih =>
      intro c hc hp
      by_cases hs : ∃ e, p e ∧ e < c
      · obtain ⟨e, he, hlt⟩ := hs
        exact ih e (by have := h0 e he; omega) he
      · exact ⟨c, hp, fun e he => by
          apply Classical.byContradiction
          intro hn
          exact hs ⟨e, he, by omega⟩⟩
  exact this c.toNat c (Nat.le_refl _) h
theorem sat_prog {l : List Arc} (hl : ∀ a ∈ l, AOk a) {r : Int} (h0 : 1 ≤ r) (h1 : r ≤ 64) : ∀ (k : Nat) (s : DS), SInv l r s → ∀ L : List Int, L.Nodup → (∀ u ∈ L, 0 ≤ u ∧ u < 65 ∧ Lst l r s u) → 65 < L.length + k → SInv l r (satD l k s) ∧ ∀ v c, Wk l r v c → Dom (satD l k s) v c
  | 0, s, I, L, hn, hL, hk => by
    have := nodup_len hn (n := 65) (fun x hx => ⟨(hL x hx).1, by have := (hL x hx).2.1; omega⟩)
    omega
  | k + 1, s, I, L, hn, hL, hk => by
    have I' := rnd_inv hl (m := l) (fun a ha => ha) I
    by_cases hd : ∀ v c, Wk l r v c → Dom s v c
    · have hdk : ∀ (j : Nat) (s : DS), SInv l r s → (∀ v c, Wk l r v c → Dom s v c) → SInv l r (satD l j s) ∧ ∀ v c, Wk l r v c → Dom (satD l j s) v c := fun j => by
        induction j with
        | zero => intro s I h; exact ⟨I, h⟩
        | succ j ih => intro s I h; exact ih _ (rnd_inv hl (m := l) (fun a ha => ha) I) (fun v c k => rnd_dom (m := l) (h v c k))
      exact hdk (k + 1) s I hd
    · obtain ⟨c, ⟨v, hk1, hk2⟩, hmin⟩ : ∃ c, (∃ v, Wk l r v c ∧ ¬ Lst l r s v) ∧ ∀ e, (∃ v, Wk l r v e ∧ ¬ Lst l r s v) → c ≤ e := by
        simp only [Classical.not_forall] at hd
        obtain ⟨v, c, k, hnd⟩ := hd
        exact least_int (p := fun c => ∃ v, Wk l r v c ∧ ¬ Lst l r s v) (fun c ⟨v, k, _⟩ => k.nn hl) ⟨v, k, fun h => hnd (h.dom k)⟩
      cases hk1 with
      | refl => exact absurd ⟨I.rt.1, fun e k => by rw [I.rt.2]; exact k.nn hl⟩ hk2
      | @step u e a hu ha hf =>
        have hok := hl a ha
        unfold AOk at hok
        have hlu : Lst l r s u := Classical.byContradiction fun h => by
          have := hmin e ⟨u, hu, h⟩
          omega
        have hlt : Lst l r (rndD l s) a.t := by
          refine lst_of (c := s.2 a.f + a.c) (rnd_new hl (fun b hb => hb) I (by rw [hf]; exact hlu) ha) (fun e' k' => ?_)
          have h2 := hmin e' ⟨a.t, k', hk2⟩
          have h3 := hlu.2 e hu
          rw [hf]
          omega
        refine sat_prog hl h0 h1 k (rndD l s) I' (a.t :: L) (List.nodup_cons.2 ⟨fun h => hk2 (hL _ h).2.2, hn⟩) (fun x hx => ?_) (by simp; omega)
        rcases List.mem_cons.1 hx with rfl | hx
        · exact ⟨by omega, by omega, hlt⟩
        · obtain ⟨a1, a2, a3⟩ := hL x hx
          exact ⟨a1, a2, rnd_lst hl (fun b hb => hb) I a3⟩
theorem bf_all {l : List Arc} (hl : ∀ a ∈ l, AOk a) {r : Int} (h0 : 1 ≤ r) (h1 : r ≤ 64) : SInv l r (bfD l r) ∧ ∀ v c, Wk l r v c → Dom (bfD l r) v c := by
  have I : SInv l r (ini r) := by
    unfold ini
    rw [if_pos ⟨h0, h1⟩]
    refine ⟨fun v hv => ?_, by simp [updF], rfl⟩
    by_cases e : v = r
    · subst e; exact .refl
    · have h2 : updF (fun _ => false) r true v = true := hv
      rw [updF_ne _ _ e] at h2; cases h2
  exact sat_prog hl h0 h1 65 (ini r) I [r] (by simp) (fun u hu => by rw [List.mem_singleton.1 hu]; exact ⟨by omega, by omega, I.rt.1, fun c k => by rw [I.rt.2]; exact k.nn hl⟩) (by simp)
theorem isF_none {l : List Arc} (hl : ∀ a ∈ l, AOk a) {r : Int} (h : ¬ (1 ≤ r ∧ r ≤ 64)) (v : Int) : isF l r v = false := by
  have : ∀ (m : List Arc) (s : DS), s.1 = (fun _ => false) → (rndD m s).1 = fun _ => false := fun m => by
    induction m with
    | nil => intro s h; exact h
    | cons a m ih => intro s h; refine ih _ ?_; unfold rlx; rw [h]; simpa using h
  have : ∀ (k : Nat) (s : DS), s.1 = (fun _ => false) → (satD l k s).1 = fun _ => false := fun k => by
    induction k with
    | zero => intro s h; exact h
    | succ k ih => intro s h; exact ih _ (this l s h)
  unfold isF bfD
  rw [this 65 (ini r) (by unfold ini; rw [if_neg h])]
theorem isF_wk {l : List Arc} (hl : ∀ a ∈ l, AOk a) {r v : Int} (h : isF l r v = true) : Wk l r v (dF l r v) := by
  by_cases hr : 1 ≤ r ∧ r ≤ 64
  · exact (bf_all hl hr.1 hr.2).1.snd v h
  · rw [isF_none hl hr] at h; cases h
theorem wk_isF {l : List Arc} (hl : ∀ a ∈ l, AOk a) {r v c : Int} (hr : 1 ≤ r ∧ r ≤ 64 ∨ v ≠ r) (k : Wk l r v c) : isF l r v = true ∧ dF l r v ≤ c := by
  have hr : 1 ≤ r ∧ r ≤ 64 := by
    rcases hr with hr | hr
    · exact hr
    · rcases k.rngR hl with h | h
      · exact absurd h hr
      · exact h
  exact (bf_all hl hr.1 hr.2).2 v c k
theorem dF_root {l : List Arc} (hl : ∀ a ∈ l, AOk a) {r : Int} (h0 : 1 ≤ r) (h1 : r ≤ 64) : isF l r r = true ∧ dF l r r = 0 := (bf_all hl h0 h1).1.rt
/-- Costs are not too great. -/
def Bd (k : Nat) (s : DS) : Prop := ∀ v, 0 ≤ s.2 v ∧ s.2 v ≤ 1073741824 * (k : Int)
theorem rlx_bd {k : Nat} {s : DS} {a : Arc} (ha : AOk a) (h : Bd k s) : Bd (k + 1) (rlx s a) := by
  intro v
  have h1 := h v
  have h2 := h a.f
  unfold AOk at ha
  unfold rlx
  split
  · show 0 ≤ updF s.2 a.t _ v ∧ updF s.2 a.t _ v ≤ _
    unfold updF
    split <;> omega
  · omega
theorem rnd_bd : ∀ {m : List Arc} {k : Nat} {s : DS}, (∀ a ∈ m, AOk a) → Bd k s → Bd (k + m.length) (rndD m s)
  | [], _, _, _, h => h
  | a :: m, k, s, hm, h => by
    have := rnd_bd (m := m) (fun b hb => hm b (by simp [hb])) (rlx_bd (hm a (by simp)) h)
    rw [List.length_cons, show k + (m.length + 1) = k + 1 + m.length by omega]
    exact this
theorem sat_bd {l : List Arc} (hl : ∀ a ∈ l, AOk a) : ∀ (j : Nat) {k : Nat} {s : DS}, Bd k s → Bd (k + j * l.length) (satD l j s)
  | 0, k, s, h => by rw [Nat.zero_mul]; exact h
  | j + 1, k, s, h => by
    have := sat_bd hl j (rnd_bd hl h)
    rw [Nat.add_mul, Nat.one_mul, show k + (j * l.length + l.length) = k + l.length + j * l.length by omega]
    exact this
theorem dF_range {l : List Arc} (hl : ∀ a ∈ l, AOk a) (hll : l.length ≤ 1000000) (r v : Int) : 0 ≤ dF l r v ∧ dF l r v ≤ 69793218560000000 := by
  have h := sat_bd hl 65 (k := 0) (s := ini r) (fun v => ⟨Int.le_refl _, Int.le_refl _⟩) v
  unfold dF bfD
  omega

/-! ### The first hops of shortest ways -/
theorem Wk.pre {l : List Arc} {r v c : Int} {a : Arc} (ha : a ∈ l) (hf : a.f = r) (k : Wk l a.t v c) : Wk l r v (a.c + c) := by
  have h1 : Wk l r a.t (0 + a.c) := .step .refl ha hf
  rw [Int.zero_add] at h1
  exact h1.trans k
def FH (l : List Arc) (r v w : Int) : Prop := ∃ a ∈ l, a.f = r ∧ a.t = w ∧ ∃ c, Wk l w v c ∧ a.c + c = dF l r v
def IsVia (l : List Arc) (r v w : Int) : Prop := FH l r v w ∧ ∀ x, FH l r v x → w ≤ x
theorem IsVia.eq {l : List Arc} {r v w x : Int} (h : IsVia l r v w) (k : IsVia l r v x) : w = x := by
  have := h.2 x k.1
  have := k.2 w h.1
  omega
theorem fh_arc {l : List Arc} (hl : ∀ a ∈ l, AOk a) {r w v : Int} (h : FH l r v w) (hv : v ≠ r) : ∃ a ∈ l, a.t = v ∧ isF l r a.f = true ∧ dF l r a.f + a.c = dF l r v ∧ (a.f = r ∧ w = v ∨ a.f ≠ r ∧ FH l r a.f w) := by
  obtain ⟨a0, ha0, hf0, ht0, c, k, hc⟩ := h
  have hok0 := hl a0 ha0
  unfold AOk at hok0
  have hroot := dF_root hl (r := r) (by omega) (by omega)
  cases k with
  | refl => exact ⟨a0, ha0, ht0, by rw [hf0]; exact hroot.1, by rw [hf0, hroot.2]; omega, .inl ⟨hf0, rfl⟩⟩
  | @step u e a hu ha hf =>
    have h1 := wk_isF hl (r := r) (.inl (by omega)) (Wk.pre ha0 hf0 (by rw [ht0]; exact hu))
    have h2 := wk_isF hl (r := r) (.inl (by omega)) (Wk.step (isF_wk hl h1.1) ha hf)
    have hok := hl a ha
    have hn := hu.nn hl
    unfold AOk at hok
    have hne : a.f ≠ r := fun e' => by
      rw [hf] at e'
      rw [e', hroot.2] at h2
      omega
    refine ⟨a, ha, rfl, by rw [hf]; exact h1.1, by rw [hf]; omega, .inr ⟨hne, ?_⟩⟩
    rw [hf]
    exact ⟨a0, ha0, hf0, ht0, e, hu, by omega⟩
theorem fh_of {l : List Arc} (hl : ∀ a ∈ l, AOk a) {r w : Int} {a : Arc} (ha : a ∈ l) (hi : isF l r a.f = true) (hd : dF l r a.f + a.c = dF l r a.t) (h : a.f = r ∧ w = a.t ∨ FH l r a.f w) : FH l r a.t w := by
  rcases h with ⟨hf, rfl⟩ | h
  · have hok := hl a ha
    unfold AOk at hok
    have hroot := dF_root hl (r := r) (by omega) (by omega)
    rw [hf, hroot.2] at hd
    exact ⟨a, ha, hf, rfl, 0, .refl, by omega⟩
  · obtain ⟨a0, ha0, hf0, ht0, c, k, hc⟩ := h
    exact ⟨a0, ha0, hf0, ht0, c + a.c, .step k ha rfl, by omega⟩
def viaP (l : List Arc) (r v : Int) (a : Arc) : Bool := a.f == r && (isF l a.t v && (a.c + dF l a.t v == dF l r v))
def viaM (l : List Arc) (r v : Int) : Int := ((l.find? (viaP l r v)).map (·.t)).getD 0
theorem viaP_iff {l : List Arc} (hl : ∀ a ∈ l, AOk a) {r v : Int} {a : Arc} (ha : a ∈ l) : viaP l r v a = true ↔ a.f = r ∧ ∃ c, Wk l a.t v c ∧ a.c + c = dF l r v := by
  simp only [viaP, Bool.and_eq_true, beq_iff_eq]
  have hok := hl a ha
  unfold AOk at hok
  constructor
  · rintro ⟨h1, h2, h3⟩
    exact ⟨h1, _, isF_wk hl h2, h3⟩
  · rintro ⟨h1, c, k, hc⟩
    have h2 := wk_isF hl (r := a.t) (.inl (by omega)) k
    have h3 := wk_isF hl (r := r) (.inl (by omega)) (Wk.pre ha h1 (isF_wk hl h2.1))
    exact ⟨h1, h2.1, by omega⟩
theorem viaM_is {l : List Arc} (hl : ∀ a ∈ l, AOk a) (hs : l.Pairwise ltA) {r v w : Int} (h : FH l r v w) : IsVia l r v (viaM l r v) := by
  obtain ⟨a0, ha0, hf0, ht0, hc0⟩ := h
  have hp0 : viaP l r v a0 = true := (viaP_iff hl ha0).2 ⟨hf0, by rw [ht0]; exact hc0⟩
  unfold viaM
  cases hfi : l.find? (viaP l r v) with
  | none => have := List.find?_eq_none.1 hfi a0 ha0; exact absurd hp0 this
  | some a =>
    have ham := List.mem_of_find?_eq_some hfi
    obtain ⟨h1, h2⟩ := (viaP_iff hl ham).1 (List.find?_some hfi)
    refine ⟨⟨a, ham, h1, rfl, h2⟩, fun x hx => ?_⟩
    obtain ⟨b, hb, hbf, hbt, hbc⟩ := hx
    have hpb : viaP l r v b = true := (viaP_iff hl hb).2 ⟨hbf, by rw [hbt]; exact hbc⟩
    show a.t ≤ x
    rw [← hbt]
    obtain ⟨_, l1, l2, hlas, hno⟩ := List.find?_eq_some_iff_append.1 hfi
    rw [hlas] at hb hs
    rcases List.mem_append.1 hb with hb | hb
    · have := hno b hb; simp [hpb] at this
    · rcases List.mem_cons.1 hb with rfl | hb
      · exact Int.le_refl _
      · have := (List.pairwise_cons.1 (List.pairwise_append.1 hs).2.1).1 b hb
        unfold ltA at this
        omega
/-- A node that is reached, and is not the root, has a first hop. -/
theorem fh_ex {l : List Arc} (hl : ∀ a ∈ l, AOk a) {r v : Int} (h : isF l r v = true) (hv : v ≠ r) : ∃ w, FH l r v w := by
  have key : ∀ {v c : Int}, Wk l r v c → v ≠ r → c = dF l r v → ∃ w, FH l r v w := fun {v c} k => by
    induction k with
    | refl => intro h _; exact absurd rfl h
    | @step u e a hu ha hf ih =>
      intro hne hc
      have hok := hl a ha
      unfold AOk at hok
      by_cases e' : u = r
      · refine ⟨a.t, a, ha, by omega, rfl, 0, .refl, ?_⟩
        have h0 := dF_root hl (r := r) (by omega) (by omega)
        have h1 := wk_isF hl (r := r) (.inl (by omega)) hu
        have h2 := wk_isF hl (r := r) (.inl (by omega)) (Wk.step (isF_wk hl h0.1) ha (by omega))
        have hn := hu.nn hl
        omega
      · have hrr : 1 ≤ r ∧ r ≤ 64 := by
          rcases hu.rngR hl with h | h
          · exact absurd h e'
          · exact h
        have h1 := wk_isF hl (r := r) (.inl hrr) hu
        have h2 := wk_isF hl (r := r) (.inl hrr) (Wk.step (isF_wk hl h1.1) ha hf)
        obtain ⟨w, hw⟩ := ih e' (by omega)
        exact ⟨w, fh_of hl ha (by rw [hf]; exact h1.1) (by rw [hf]; omega) (.inr (by rw [hf]; exact hw))⟩
  exact key (isF_wk hl h) hv rfl
def routesM (l : List Arc) (r : Int) : List Rt := (((List.range 65).map fun (i : Nat) => (i : Int)).filter fun v => decide (v ≠ r) && isF l r v).map fun v => ⟨v, viaM l r v, dF l r v⟩
/-! ### The nearest one next -/
def leV (c v c' v' : Int) : Prop := c < c' ∨ c = c' ∧ v ≤ v'
/-- A route's end by an arc from a node that is done. -/
def hopV (r : Int) (known : Int → Option (Int × Int)) (a : Arc) : Int := if a.f = r then a.t else ((known a.f).getD (0, 0)).1
def hopC (r : Int) (known : Int → Option (Int × Int)) (a : Arc) : Int := if a.f = r then a.c else ((known a.f).getD (0, 0)).2 + a.c
structure DInv (l : List Arc) (r : Int) (known : Int → Option (Int × Int)) (done : Int → Bool) (hp : List (Int × Int)) (pend : Arc → Prop) : Prop where
  k1 : ∀ v p, known v = some p → v ≠ r ∧ ∃ a ∈ l, done a.f = true ∧ a.t = v ∧ p = (hopV r known a, hopC r known a)
  d1 : ∀ u, done u = true → u = r ∨ known u = some (viaM l r u, dF l r u) ∧ isF l r u = true
  d2 : ∀ a ∈ l, done a.f = true → a.t ≠ r → ¬ pend a → ∃ p, known a.t = some p ∧ leV p.2 p.1 (hopC r known a) (hopV r known a)
  h1 : ∀ v p, known v = some p → done v = false → (p.2, v) ∈ hp
  hr : done r = false → (0, r) ∈ hp
  h2 : ∀ c v, (c, v) ∈ hp → v = r ∨ ∃ p, known v = some p ∧ p.2 ≤ c
theorem dinv_new (l : List Arc) (r : Int) : DInv l r (fun _ => none) (fun _ => false) [(0, r)] (fun _ => False) where
  k1 := fun v p h => by cases h
  d1 := fun u h => by cases h
  d2 := fun a _ h => by cases h
  h1 := fun v p h => by cases h
  hr := fun _ => by simp
  h2 := fun c v h => by simp at h; exact .inl h.2
theorem DInv.hop {l : List Arc} {r : Int} {known : Int → Option (Int × Int)} {done : Int → Bool} {hp : List (Int × Int)} {pend : Arc → Prop} (hl : ∀ a ∈ l, AOk a) (I : DInv l r known done hp pend) {a : Arc} (ha : a ∈ l) (hd : done a.f = true) :
    isF l r a.f = true ∧ hopC r known a = dF l r a.f + a.c ∧ (a.f = r ∧ hopV r known a = a.t ∨ a.f ≠ r ∧ hopV r known a = viaM l r a.f) := by
  have hok := hl a ha
  unfold AOk at hok
  unfold hopC hopV
  by_cases e : a.f = r
  · have h0 := dF_root hl (r := r) (by omega) (by omega)
    rw [if_pos e, if_pos e, e, h0.2, Int.zero_add]
    exact ⟨h0.1, rfl, .inl ⟨rfl, rfl⟩⟩
  · rcases I.d1 _ hd with h | ⟨h, h3⟩
    · exact absurd h e
    · rw [if_neg e, if_neg e, h]
      exact ⟨h3, rfl, .inr ⟨e, rfl⟩⟩
theorem DInv.snd {l : List Arc} {r : Int} {known : Int → Option (Int × Int)} {done : Int → Bool} {hp : List (Int × Int)} {pend : Arc → Prop} (hl : ∀ a ∈ l, AOk a) (I : DInv l r known done hp pend) {v : Int} {p : Int × Int} (h : known v = some p) : Wk l r v p.2 ∧ 1 ≤ v ∧ v ≤ 64 ∧ (dF l r v = p.2 → FH l r v p.1) := by
  obtain ⟨hne, a, ha, hd, rfl, rfl⟩ := I.k1 v p h
  obtain ⟨h1, h2, h3⟩ := I.hop hl ha hd
  have hok := hl a ha
  unfold AOk at hok
  refine ⟨?_, by omega, by omega, fun e => ?_⟩
  · show Wk l r a.t (hopC r known a)
    rw [h2]
    exact .step (isF_wk hl h1) ha rfl
  · refine fh_of hl ha h1 (by rw [← h2]; exact e.symm) ?_
    rcases h3 with ⟨e1, e2⟩ | ⟨e1, e2⟩
    · exact .inl ⟨e1, e2⟩
    · right
      show FH l r a.f (hopV r known a)
      rw [e2]
      obtain ⟨w, hw⟩ := fh_ex hl h1 e1
      rcases I.d1 _ hd with h | ⟨hk, _⟩
      · exact absurd h e1
      · -- the via of a node that is done
        have : ∃ w, FH l r a.f w := ⟨w, hw⟩
        obtain ⟨a0, ha0, hf0, ht0, hc0⟩ := hw
        have hp0 : viaP l r a.f a0 = true := (viaP_iff hl ha0).2 ⟨hf0, by rw [ht0]; exact hc0⟩
        unfold viaM
        cases hfi : l.find? (viaP l r a.f) with
        | none => have := List.find?_eq_none.1 hfi a0 ha0; exact absurd hp0 this
        | some b =>
          have hbm := List.mem_of_find?_eq_some hfi
          obtain ⟨g1, g2⟩ := (viaP_iff hl hbm).1 (List.find?_some hfi)
          exact ⟨b, hbm, g1, rfl, g2⟩
theorem DInv.front {l : List Arc} {r : Int} {known : Int → Option (Int × Int)} {done : Int → Bool} {hp : List (Int × Int)} (hl : ∀ a ∈ l, AOk a) (I : DInv l r known done hp (fun _ => False)) {x e : Int} (k : Wk l r x e) (hx : done x = false) : ∃ c y, (c, y) ∈ hp ∧ c ≤ e := by
  induction k with
  | refl => exact ⟨0, r, I.hr hx, Int.le_refl _⟩
  | @step u e' a hu ha hf ih =>
    have hok := hl a ha
    unfold AOk at hok
    cases hd : done u with
    | false =>
      obtain ⟨c, y, h1, h2⟩ := ih hd
      exact ⟨c, y, h1, by omega⟩
    | true =>
      by_cases hr : a.t = r
      · rw [hr] at hx
        exact ⟨0, r, I.hr hx, by have := hu.nn hl; omega⟩
      · obtain ⟨p, h1, h2⟩ := I.d2 a ha (by rw [hf]; exact hd) hr (fun h => h)
        obtain ⟨h3, h4, _⟩ := I.hop hl ha (by rw [hf]; exact hd)
        refine ⟨p.2, a.t, I.h1 _ _ h1 hx, ?_⟩
        have h5 := wk_isF hl (r := r) (by rcases hu.rngR hl with h | h; exact .inl ⟨by omega, by omega⟩; exact .inl h) hu
        rw [hf] at h4
        unfold leV at h2
        omega
/-- The nearest one is taken: what is known of it is final. -/
theorem DInv.fin {l : List Arc} {r : Int} {known : Int → Option (Int × Int)} {done : Int → Bool} {hp : List (Int × Int)} (hl : ∀ a ∈ l, AOk a) (hs : l.Pairwise ltA) (I : DInv l r known done hp (fun _ => False)) {c n : Int} (hm : (c, n) ∈ hp) (hmin : ∀ e ∈ hp, c ≤ e.1) (hd : done n = false) (hn : n ≠ r) : known n = some (viaM l r n, dF l r n) ∧ isF l r n = true := by
  rcases I.h2 c n hm with h | ⟨p, hk, hp2⟩
  · exact absurd h hn
  · obtain ⟨hw, _, _, hfh⟩ := I.snd hl hk
    have h1 := wk_isF hl (.inr hn) hw
    obtain ⟨ce, y, hy, hce⟩ := I.front hl (isF_wk hl h1.1) hd
    have h2 := hmin _ hy
    have hpe : dF l r n = p.2 := by simp only at h2; omega
    have hv : p.1 = viaM l r n := by
      have hF := hfh hpe
      refine IsVia.eq ⟨hF, fun x hx => ?_⟩ (viaM_is hl hs hF)
      obtain ⟨a, ha, ht, hi, hda, hcase⟩ := fh_arc hl hx hn
      have hok := hl a ha
      unfold AOk at hok
      have hdone : done a.f = true := by
        cases hdf : done a.f with
        | true => rfl
        | false =>
          obtain ⟨c2, y2, hy2, hce2⟩ := I.front hl (isF_wk hl hi) hdf
          have := hmin _ hy2
          simp only at this
          omega
      obtain ⟨q, hq1, hq2⟩ := I.d2 a ha hdone (by rw [ht]; exact hn) (fun h => h)
      rw [ht, hk] at hq1
      cases hq1
      obtain ⟨_, h4, h5⟩ := I.hop hl ha hdone
      have hvx : hopV r known a ≤ x := by
        rcases h5 with ⟨e1, e2⟩ | ⟨e1, e2⟩
        · rcases hcase with ⟨_, e3⟩ | ⟨e3, _⟩
          · omega
          · exact absurd e1 e3
        · rcases hcase with ⟨e3, _⟩ | ⟨_, e3⟩
          · exact absurd e3 e1
          · have := (viaM_is hl hs e3).2 x e3
            omega
      unfold leV at hq2
      omega
    refine ⟨?_, h1.1⟩
    rw [hk, hpe, ← hv]
/-- One is taken that was done. -/
theorem DInv.old {l : List Arc} {r : Int} {known : Int → Option (Int × Int)} {done : Int → Bool} {hp hp' : List (Int × Int)} {pend : Arc → Prop} (I : DInv l r known done hp pend) {c n : Int} (hpm : hp.Perm ((c, n) :: hp')) (hd : done n = true) : DInv l r known done hp' pend where
  k1 := I.k1
  d1 := I.d1
  d2 := I.d2
  h1 := fun v p h1 h2 => by
    rcases List.mem_cons.1 (hpm.mem_iff.1 (I.h1 v p h1 h2)) with h | h
    · cases h; rw [hd] at h2; cases h2
    · exact h
  hr := fun h2 => by
    rcases List.mem_cons.1 (hpm.mem_iff.1 (I.hr h2)) with h | h
    · cases h; rw [hd] at h2; cases h2
    · exact h
  h2 := fun c v h => I.h2 c v (hpm.mem_iff.2 (by simp [h]))
/-- The nearest one is done. -/
theorem DInv.take {l : List Arc} {r : Int} {known : Int → Option (Int × Int)} {done : Int → Bool} {hp hp' : List (Int × Int)} (hl : ∀ a ∈ l, AOk a) (hs : l.Pairwise ltA) (I : DInv l r known done hp (fun _ => False)) {c n : Int} (hpm : hp.Perm ((c, n) :: hp')) (hmin : ∀ e ∈ hp, c ≤ e.1) (hd : done n = false) : DInv l r known (updF done n true) hp' (fun a => a.f = n) := by
  have hne : ∀ v, updF done n true v = false → v ≠ n ∧ done v = false := fun v h => by
    by_cases e : v = n
    · subst e; rw [updF_same] at h; cases h
    · rw [updF_ne _ _ e] at h; exact ⟨e, h⟩
  have hup : ∀ v, done v = true → updF done n true v = true := fun v h => by
    by_cases e : v = n
    · subst e; exact updF_same _ _ _
    · rw [updF_ne _ _ e]; exact h
  refine ⟨fun v p h => ?_, fun u h => ?_, fun a ha h ht hp => ?_, fun v p h1 h2 => ?_, fun h2 => ?_, fun c v h => I.h2 c v (hpm.mem_iff.2 (by simp [h]))⟩
  · obtain ⟨h1, a, ha, h2, h3⟩ := I.k1 v p h
    exact ⟨h1, a, ha, hup _ h2, h3⟩
  · by_cases e : u = n
    · subst e
      by_cases hr : u = r
      · exact .inl hr
      · exact .inr (I.fin hl hs (hpm.mem_iff.2 (by simp)) hmin hd hr)
    · rw [updF_ne _ _ e] at h; exact I.d1 u h
  · rw [updF_ne _ _ hp] at h
    exact I.d2 a ha h ht (fun h => h)
  · obtain ⟨e, h3⟩ := hne v h2
    rcases List.mem_cons.1 (hpm.mem_iff.1 (I.h1 v p h1 h3)) with h | h
    · cases h; exact absurd rfl e
    · exact h
  · obtain ⟨e, h3⟩ := hne r h2
    rcases List.mem_cons.1 (hpm.mem_iff.1 (I.hr h3)) with h | h
    · cases h; exact absurd rfl e
    · exact h
/-- What is known when an arc from the node that is done last is looked at. -/
theorem DInv.skip {l : List Arc} {r : Int} {known : Int → Option (Int × Int)} {done : Int → Bool} {hp : List (Int × Int)} {pend pend' : Arc → Prop} (hl : ∀ a ∈ l, AOk a) (hs : l.Pairwise ltA) (I : DInv l r known done hp pend) {a : Arc} (hpe : ∀ b, pend b → pend' b ∨ b = a) (hsk : a.t = r ∨ done a.t = true) : DInv l r known done hp pend' := by
  refine ⟨I.k1, I.d1, fun b hb h ht hp => ?_, I.h1, I.hr, I.h2⟩
  by_cases e : pend b
  · rcases hpe b e with h' | rfl
    · exact absurd h' hp
    · rcases hsk with h' | h'
      · exact absurd h' ht
      · rcases I.d1 _ h' with h'' | ⟨hk, hi⟩
        · exact absurd h'' ht
        · obtain ⟨h1, h2, h3⟩ := I.hop hl hb h
          refine ⟨_, hk, ?_⟩
          have h4 := wk_isF hl (.inr ht) (Wk.step (isF_wk hl h1) hb rfl)
          unfold leV
          rw [h2]
          by_cases heq : dF l r b.t = dF l r b.f + b.c
          · right
            refine ⟨heq, ?_⟩
            obtain ⟨w, hw⟩ := fh_ex hl hi ht
            refine (viaM_is hl hs hw).2 _ (fh_of hl hb h1 heq.symm ?_)
            rcases h3 with ⟨e1, e2⟩ | ⟨e1, e2⟩
            · exact .inl ⟨e1, e2⟩
            · right
              rw [e2]
              obtain ⟨w, hw⟩ := fh_ex hl h1 e1
              exact (viaM_is hl hs hw).1
          · left
            show dF l r b.t < _
            omega
  · exact I.d2 b hb h ht e
/-- What is known is no worse. -/
theorem DInv.keep {l : List Arc} {r : Int} {known : Int → Option (Int × Int)} {done : Int → Bool} {hp : List (Int × Int)} {pend pend' : Arc → Prop} (I : DInv l r known done hp pend) {a : Arc} (hpe : ∀ b, pend b → pend' b ∨ b = a) {p : Int × Int} (hk : known a.t = some p) (hle : leV p.2 p.1 (hopC r known a) (hopV r known a)) : DInv l r known done hp pend' := by
  refine ⟨I.k1, I.d1, fun b hb h ht hp => ?_, I.h1, I.hr, I.h2⟩
  by_cases e : pend b
  · rcases hpe b e with h' | rfl
    · exact absurd h' hp
    · exact ⟨p, hk, hle⟩
  · exact I.d2 b hb h ht e
/-- What is known is worse, or nothing. -/
theorem DInv.put {l : List Arc} {r : Int} {known : Int → Option (Int × Int)} {done : Int → Bool} {hp hp' : List (Int × Int)} {pend pend' : Arc → Prop} (I : DInv l r known done hp pend) {a : Arc} (ha : a ∈ l) (hd : done a.f = true) (hpe : ∀ b, pend b → pend' b ∨ b = a) (hsk : a.t ≠ r) (hnd : done a.t = false)
    (hle : ∀ p, known a.t = some p → leV (hopC r known a) (hopV r known a) p.2 p.1) (hin : ∀ e ∈ hp, e ∈ hp') (hnew : (hopC r known a, a.t) ∈ hp') (hall : ∀ e ∈ hp', e ∈ hp ∨ e = (hopC r known a, a.t)) : DInv l r (updF known a.t (some (hopV r known a, hopC r known a))) done hp' pend' := by
  have hsame : ∀ b : Arc, done b.f = true → hopV r (updF known a.t (some (hopV r known a, hopC r known a))) b = hopV r known b ∧ hopC r (updF known a.t (some (hopV r known a, hopC r known a))) b = hopC r known b := fun b hb => by
    have hne : b.f ≠ a.t := fun e => by rw [e, hnd] at hb; cases hb
    unfold hopV hopC
    rw [updF_ne _ _ hne]
    exact ⟨rfl, rfl⟩
  refine ⟨fun v p h => ?_, fun u h => ?_, fun b hb h ht hp => ?_, fun v p h1 h2 => ?_, fun h => hin _ (I.hr h), fun c v h => ?_⟩
  · by_cases e : v = a.t
    · subst e
      rw [updF_same] at h
      cases h
      exact ⟨hsk, a, ha, hd, rfl, by rw [(hsame a hd).1, (hsame a hd).2]⟩
    · rw [updF_ne _ _ e] at h
      obtain ⟨h1, b, hb, h2, h3, h4⟩ := I.k1 v p h
      exact ⟨h1, b, hb, h2, h3, by rw [(hsame b h2).1, (hsame b h2).2]; exact h4⟩
  · have hne : u ≠ a.t := fun e => by rw [e, hnd] at h; cases h
    rw [updF_ne _ _ hne]
    exact I.d1 u h
  · rw [(hsame b h).1, (hsame b h).2]
    by_cases et : b.t = a.t
    · rw [et, updF_same]
      refine ⟨_, rfl, ?_⟩
      by_cases e : pend b
      · rcases hpe b e with h' | rfl
        · exact absurd h' hp
        · exact .inr ⟨rfl, Int.le_refl _⟩
      · obtain ⟨p, hk, hq⟩ := I.d2 b hb h ht e
        rw [et] at hk
        have := hle p hk
        unfold leV at *
        simp only
        omega
    · rw [updF_ne _ _ et]
      by_cases e : pend b
      · rcases hpe b e with h' | rfl
        · exact absurd h' hp
        · exact absurd rfl et
      · exact I.d2 b hb h ht e
  · by_cases e : v = a.t
    · subst e
      rw [updF_same] at h1
      cases h1
      exact hnew
    · rw [updF_ne _ _ e] at h1
      exact hin _ (I.h1 v p h1 h2)
  · rcases hall _ h with h | h
    · rcases I.h2 c v h with h | ⟨p, h1, h2⟩
      · exact .inl h
      · right
        by_cases e : v = a.t
        · subst e
          rw [updF_same]
          refine ⟨_, rfl, ?_⟩
          have := hle p h1
          unfold leV at this
          simp only
          omega
        · rw [updF_ne _ _ e]; exact ⟨p, h1, h2⟩
    · cases h
      right
      rw [updF_same]
      exact ⟨_, rfl, Int.le_refl _⟩
/-- All is done: what is known is what there is. -/
theorem DInv.done {l : List Arc} {r : Int} {known : Int → Option (Int × Int)} {done : Int → Bool} (hl : ∀ a ∈ l, AOk a) (I : DInv l r known done [] (fun _ => False)) (v : Int) : known v = if v ≠ r ∧ isF l r v = true then some (viaM l r v, dF l r v) else none := by
  have hall : ∀ v p, known v = some p → done v = true := fun v p h => by
    cases hd : done v with
    | true => rfl
    | false => have := I.h1 v p h hd; simp at this
  cases hk : known v with
  | some p =>
    obtain ⟨hne, _⟩ := I.k1 v p hk
    rcases I.d1 v (hall v p hk) with h | ⟨h1, h2⟩
    · exact absurd h hne
    · rw [if_pos ⟨hne, h2⟩, ← h1, hk]
  | none =>
    split
    · rename_i h
      exfalso
      cases hd : done v with
      | true =>
        rcases I.d1 v hd with e | ⟨h1, _⟩
        · exact h.1 e
        · rw [hk] at h1; cases h1
      | false =>
        obtain ⟨c, y, hy, _⟩ := I.front hl (isF_wk hl h.2) hd
        simp at hy
    · rfl

end A
end Go.Proofs.Ytmcannmjielalaa
