/- What functions of the program compute: wide38p -/
import Derived.Test.YtkgemkadebgeoaaBkeys38
import Derived.Test.YtkgemkadebgeoaaProg
import Derived.KernelRfl
set_option linter.unusedVariables false
set_option linter.unusedSimpArgs false
namespace Go.Proofs.Ytkgemkadebgeoaa
namespace A

/-! ### Ways by arcs that are so wide at least -/
inductive WConn (l : List Arc) (w : Int) (r : Int) : Int → Prop
  | refl : WConn l w r r
  | step {u : Int} {a : Arc} : WConn l w r u → a ∈ l → a.f = u → w ≤ a.c → WConn l w r a.t
theorem WConn.mono {l : List Arc} {w w' r v : Int} (h : w' ≤ w) (k : WConn l w r v) : WConn l w' r v := by
  induction k with
  | refl => exact .refl
  | step _ ha hu hw ih => exact .step ih ha hu (by omega)
theorem WConn.trans {l : List Arc} {w r u v : Int} (k : WConn l w r u) (k2 : WConn l w u v) : WConn l w r v := by
  induction k2 with
  | refl => exact k
  | step _ ha hu hw ih => exact .step ih ha hu hw
theorem WConn.range {l : List Arc} {w r v : Int} (hl : ∀ a ∈ l, AOk a) (k : WConn l w r v) : v = r ∨ (1 ≤ v ∧ v ≤ 64 ∧ w ≤ 1073741824) := by
  cases k with
  | refl => exact .inl rfl
  | step _ ha _ hw => have := hl _ ha; unfold AOk at this; right; omega
theorem WConn.arc {l : List Arc} {w r v : Int} (k : WConn l w r v) : v = r ∨ ∃ a ∈ l, w ≤ a.c ∧ WConn l a.c r v := by
  induction k with
  | refl => exact .inl rfl
  | @step u a hk ha hu hw ih =>
    right
    rcases ih with rfl | ⟨a', ha', hw', hk'⟩
    · exact ⟨a, ha, hw, .step .refl ha hu (Int.le_refl _)⟩
    · by_cases h : a.c ≤ a'.c
      · exact ⟨a, ha, hw, .step (hk'.mono h) ha hu (Int.le_refl _)⟩
      · exact ⟨a', ha', hw', .step hk' ha hu (by omega)⟩
def wst (w : Int) (f : Int → Bool) (a : Arc) : Int → Bool := if (decide (w ≤ a.c) && f a.f) && !f a.t then updF f a.t true else f
def reachW (l : List Arc) (w r : Int) : Int → Bool := satG (wst w) l 65 (updF (fun _ => false) r true)
theorem wst_le (w : Int) : ∀ f a i, f i = true → wst w f a i = true := fun f a i h => by
  unfold wst
  split
  · simp only [updF]; split <;> simp [h]
  · exact h
theorem wst_StG {l : List Arc} (hl : ∀ a ∈ l, AOk a) (w : Int) : StG (wst w) l where
  le := wst_le w
  rng := fun f a i ha h h2 => by
    have := hl a ha
    unfold AOk at this
    unfold wst at h2
    split at h2
    · simp only [updF] at h2
      split at h2
      · omega
      · rw [h] at h2; cases h2
    · rw [h] at h2; cases h2
theorem reachW_iff {l : List Arc} (hl : ∀ a ∈ l, AOk a) {w r : Int} (h0 : 0 ≤ r) (h1 : r ≤ 64) {v : Int} : reachW l w r v = true ↔ WConn l w r v := by
  have hr : updF (fun _ => false) r true r = true := by simp
  constructor
  · intro h
    refine satG_sound (C := WConn l w r) (fun f a i ha hf hi => ?_) 65 (fun i hi => ?_) v h
    · unfold wst at hi
      split at hi
      · rename_i hc
        simp only [Bool.and_eq_true, decide_eq_true_eq] at hc
        simp only [updF] at hi
        split at hi
        · rename_i e; rw [e]; exact .step (hf _ hc.1.2) ha rfl hc.1.1
        · exact hf i hi
      · exact hf i hi
    · simp only [updF] at hi
      split at hi
      · rename_i e; rw [e]; exact .refl
      · cases hi
  · intro h
    have hs := wst_StG hl w
    have hd := satG_done hs 65 (updF (fun _ => false) r true) (by have := cntG_one h0 (by omega) hr; omega)
    have hcl := rndG_closed hs.le hd
    induction h with
    | refl => exact satG_le hs.le 65 hr
    | @step u a _ ha hu hw ih =>
      subst hu
      have e := congrFun (hcl a ha) a.t
      have ih' : satG (wst w) l 65 (updF (fun _ => false) r true) a.f = true := ih
      show satG (wst w) l 65 (updF (fun _ => false) r true) a.t = true
      generalize satG (wst w) l 65 (updF (fun _ => false) r true) = f at e ih' ⊢
      cases ht : f a.t with
      | true => rfl
      | false =>
        rw [ht] at e
        unfold wst at e
        rw [if_pos (by simp [hw, ih', ht]), updF_same] at e
        cases e
/-- The width between two nodes; nought, if there is no way. -/
def wF (l : List Arc) (r v : Int) : Int := l.foldl (fun b a => if reachW l a.c r v && decide (b < a.c) then a.c else b) 0
theorem wF_fold {l : List Arc} {r v : Int} : ∀ (m : List Arc) (b : Int), b ≤ m.foldl (fun b a => if reachW l a.c r v && decide (b < a.c) then a.c else b) b ∧ (∀ a ∈ m, reachW l a.c r v = true → a.c ≤ m.foldl (fun b a => if reachW l a.c r v && decide (b < a.c) then a.c else b) b) ∧
    (m.foldl (fun b a => if reachW l a.c r v && decide (b < a.c) then a.c else b) b = b ∨ ∃ a ∈ m, reachW l a.c r v = true ∧ m.foldl (fun b a => if reachW l a.c r v && decide (b < a.c) then a.c else b) b = a.c)
  | [], b => ⟨Int.le_refl _, fun a ha => by simp at ha, .inl rfl⟩
  | x :: m, b => by
    obtain ⟨h1, h2, h3⟩ := wF_fold (l := l) (r := r) (v := v) m (if reachW l x.c r v && decide (b < x.c) then x.c else b)
    rw [List.foldl_cons]
    generalize hb' : (if (reachW l x.c r v && decide (b < x.c)) = true then x.c else b) = b' at h1 h2 h3 ⊢
    have hbb : b ≤ b' ∧ (reachW l x.c r v = true → x.c ≤ b') ∧ (b' = b ∨ (reachW l x.c r v = true ∧ b' = x.c)) := by
      subst hb'
      split
      · rename_i hc
        simp only [Bool.and_eq_true, decide_eq_true_eq] at hc
        exact ⟨by omega, fun _ => Int.le_refl _, .inr ⟨hc.1, rfl⟩⟩
      · rename_i hc
        simp only [Bool.and_eq_true, decide_eq_true_eq] at hc
        exact ⟨Int.le_refl _, fun h => by have : ¬ b < x.c := fun h4 => hc ⟨h, h4⟩; omega, .inl rfl⟩
    refine ⟨by omega, fun a ha hr => ?_, ?_⟩
    · rcases List.mem_cons.1 ha with rfl | ha
      · have := hbb.2.1 hr; omega
      · exact h2 a ha hr
    · rcases h3 with h3 | ⟨a, ha, hr, h3⟩
      · rcases hbb.2.2 with h4 | ⟨h4, h5⟩
        · left; rw [h3, h4]
        · right; exact ⟨x, by simp, h4, by rw [h3, h5]⟩
      · right; exact ⟨a, by simp [ha], hr, h3⟩
theorem wF_range {l : List Arc} (hl : ∀ a ∈ l, AOk a) (r v : Int) : 0 ≤ wF l r v ∧ wF l r v ≤ 1073741824 := by
  obtain ⟨h1, _, h3⟩ := wF_fold (l := l) (r := r) (v := v) l 0
  refine ⟨h1, ?_⟩
  rcases h3 with h3 | ⟨a, ha, _, h3⟩
  · rw [wF, h3]; decide
  · have := hl a ha; unfold AOk at this; rw [wF, h3]; omega
theorem wF_iff {l : List Arc} (hl : ∀ a ∈ l, AOk a) {r v : Int} (h0 : 0 ≤ r) (h1 : r ≤ 64) (hv : v ≠ r) {w : Int} (hw : 1 ≤ w) : w ≤ wF l r v ↔ WConn l w r v := by
  obtain ⟨h2, h3, h4⟩ := wF_fold (l := l) (r := r) (v := v) l 0
  constructor
  · intro h
    rcases h4 with h4 | ⟨a, ha, hr, h4⟩
    · rw [wF, h4] at h; omega
    · rw [wF, h4] at h
      exact ((reachW_iff hl h0 h1).1 hr).mono h
  · intro h
    rcases h.arc with e | ⟨a, ha, hwa, hk⟩
    · exact absurd e hv
    · have := h3 a ha ((reachW_iff hl h0 h1).2 hk)
      unfold wF
      omega
/-- The nodes that are reached, in order. -/
def wKeys (l : List Arc) (r : Int) : List Int := ((List.range 65).map fun (i : Nat) => (i : Int)).filter fun v => decide (v ≠ r) && decide (0 < wF l r v)
theorem wKeys_sorted (l : List Arc) (r : Int) : (wKeys l r).Pairwise (· < ·) := by
  refine List.Pairwise.sublist List.filter_sublist ?_
  rw [List.pairwise_map]
  exact List.pairwise_lt_range.imp (fun h => by omega)
theorem wKeys_mem {l : List Arc} (hl : ∀ a ∈ l, AOk a) {r v : Int} (h0 : 0 ≤ r) (h1 : r ≤ 64) : v ∈ wKeys l r ↔ v ≠ r ∧ 0 < wF l r v := by
  unfold wKeys
  rw [List.mem_filter]
  simp only [Bool.and_eq_true, decide_eq_true_eq, List.mem_map, List.mem_range]
  refine ⟨fun h => h.2, fun h => ⟨?_, h⟩⟩
  have hk := (wF_iff hl h0 h1 h.1 (w := 1) (by omega)).1 (by omega)
  rcases hk.range hl with e | e
  · exact absurd e h.1
  · exact ⟨v.toNat, by omega, by omega⟩
/-! ### The walk from node to node: the widest one next -/
def aget (m : List (Int × Int)) (v : Int) : Int := (mGet m v).getD 0
structure WInv (l : List Arc) (r : Int) (m : List (Int × Int)) (D : Int → Bool) : Prop where
  nd : (mKeys m).Nodup
  key : ∀ v ∈ mKeys m, 1 ≤ v ∧ v ≤ 64 ∧ 1 ≤ aget m v
  root : aget m r = 1073741825
  dk : ∀ v, D v = true → v ∈ mKeys m
  sound : ∀ v, v ≠ r → v ∈ mKeys m → aget m v ≤ 1073741824 ∧ WConn l (aget m v) r v
  le : ∀ u v, D u = true → D v = false → v ∈ mKeys m → aget m v ≤ aget m u
/-- All arcs from those that are done are seen; of those of n, the ones ahead of place i. -/
def WSeen (l : List Arc) (m : List (Int × Int)) (D : Int → Bool) (n : Int) (i : Nat) : Prop := ∀ (k : Nat) a, l[k]? = some a → D a.f = true → (a.f ≠ n ∨ k < i) → min (aget m a.f) a.c ≤ aget m a.t
theorem aget_put {m : List (Int × Int)} {k x v : Int} : aget (mPut m k x) v = if v = k then x else aget m v := by
  unfold aget
  rw [mGet_put]
  split <;> rfl
theorem aget_mem {m : List (Int × Int)} {v : Int} (h : aget m v ≠ 0) : v ∈ mKeys m := by
  rw [← mGet_mem]
  unfold aget at h
  cases hg : mGet m v with
  | none => rw [hg] at h; exact absurd rfl h
  | some x => rfl
theorem WInv.a0 {l : List Arc} {r : Int} {m : List (Int × Int)} {D : Int → Bool} (I : WInv l r m D) (v : Int) : 0 ≤ aget m v := by
  by_cases h : aget m v = 0
  · omega
  · have := (I.key v (aget_mem h)).2.2; omega
theorem winv_new {l : List Arc} {r : Int} (h0 : 1 ≤ r) (h1 : r ≤ 64) : WInv l r (mPut [] r 1073741825) (fun _ => false) where
  nd := by simp [mPut, mKeys]
  key := fun v hv => by simp [mPut, mKeys] at hv; subst hv; exact ⟨h0, h1, by simp [aget, mPut, mGet]⟩
  root := by simp [aget, mPut, mGet]
  dk := fun v h => by cases h
  sound := fun v h hv => by simp [mPut, mKeys] at hv; exact absurd hv h
  le := fun u v h => by cases h
/-- A node is done. -/
theorem WInv.done {l : List Arc} {r n : Int} {m : List (Int × Int)} {D : Int → Bool} (I : WInv l r m D) (hn : n ∈ mKeys m) (hmax : ∀ k ∈ mKeys m, D k = false → aget m k ≤ aget m n) (hD : D n = false) : WInv l r m (updF D n true) where
  nd := I.nd
  key := I.key
  root := I.root
  dk := fun v h => by
    by_cases e : v = n
    · subst e; exact hn
    · rw [updF_ne _ _ e] at h; exact I.dk v h
  sound := I.sound
  le := fun u v hu hv hm => by
    have hvn : v ≠ n := fun e => by subst e; rw [updF_same] at hv; cases hv
    rw [updF_ne _ _ hvn] at hv
    by_cases e : u = n
    · subst e; exact hmax v hm hv
    · rw [updF_ne _ _ e] at hu; exact I.le u v hu hv hm
/-- An arc from n, which is done, is seen. -/
theorem WInv.put {l : List Arc} {r n : Int} {m : List (Int × Int)} {D : Int → Bool} (hl : ∀ a ∈ l, AOk a) (I : WInv l r m D) (hn : D n = true) (hmin : ∀ u, D u = true → aget m n ≤ aget m u) {a : Arc} (ha : a ∈ l) (hf : a.f = n) : WInv l r (mPut m a.t (max (aget m a.t) (min (aget m n) a.c))) D := by
  have hok := hl a ha
  unfold AOk at hok
  have hnk := I.key n (I.dk n hn)
  have h0 := I.a0 a.t
  refine ⟨mPut_nodup I.nd, fun v hv => ?_, ?_, fun v hv => mPut_keys.2 (.inr (I.dk v hv)), fun v hvr hv => ?_, fun u v hu hv hvm => ?_⟩
  · rw [aget_put]
    rcases mPut_keys.1 hv with e | hv
    · rw [if_pos e]; omega
    · split
      · have := I.key v hv; omega
      · exact I.key v hv
  · rw [aget_put]
    split
    · rename_i e; rw [← e, I.root]; omega
    · exact I.root
  · rw [aget_put]
    by_cases e : v = a.t
    · rw [if_pos e]
      have hnew : WConn l (min (aget m n) a.c) r v := by
        rw [e]
        by_cases hnr : n = r
        · exact .step (u := n) (by rw [hnr]; exact .refl) ha hf (by omega)
        · exact .step ((I.sound n hnr (I.dk n hn)).2.mono (by omega)) ha hf (by omega)
      by_cases hb : aget m a.t ≤ min (aget m n) a.c
      · rw [Int.max_eq_right hb]; exact ⟨by omega, hnew⟩
      · rw [Int.max_eq_left (by omega), ← e]
        exact I.sound v hvr (aget_mem (by rw [e]; omega))
    · rw [if_neg e]
      rcases mPut_keys.1 hv with e' | hv
      · exact absurd e' e
      · exact I.sound v hvr hv
  · rw [aget_put, aget_put]
    have hum := hmin u hu
    by_cases eu : u = a.t
    · rw [if_pos eu]
      have h1 : aget m v ≤ aget m u ∨ v = a.t := by
        rcases mPut_keys.1 hvm with e | hvm
        · exact .inr e
        · exact .inl (I.le u v hu hv hvm)
      split
      · omega
      · rcases h1 with h1 | h1
        · rw [eu] at h1; omega
        · rename_i h2; exact absurd h1 h2
    · rw [if_neg eu]
      by_cases ev : v = a.t
      · rw [if_pos ev]
        have h1 : aget m a.t ≤ aget m u := by
          by_cases h2 : a.t ∈ mKeys m
          · exact I.le u a.t hu (by rw [← ev]; exact hv) h2
          · have h3 : aget m a.t = 0 := Classical.byContradiction fun h => h2 (aget_mem h)
            have := I.a0 u
            omega
        omega
      · rw [if_neg ev]
        rcases mPut_keys.1 hvm with e | hvm
        · exact absurd e ev
        · exact I.le u v hu hv hvm
/-- Those that are done don't turn. -/
theorem put_done {l : List Arc} {r n : Int} {m : List (Int × Int)} {D : Int → Bool} (I : WInv l r m D) (hmin : ∀ u, D u = true → aget m n ≤ aget m u) {a : Arc} {u : Int} (hu : D u = true) : aget (mPut m a.t (max (aget m a.t) (min (aget m n) a.c))) u = aget m u := by
  rw [aget_put]
  split
  · rename_i e
    have := hmin u hu
    rw [← e]
    omega
  · rfl
theorem WSeen.put {l : List Arc} {r n : Int} {m : List (Int × Int)} {D : Int → Bool} {i : Nat} (I : WInv l r m D) (hmin : ∀ u, D u = true → aget m n ≤ aget m u) {a : Arc} (ha : l[i]? = some a) (hf : a.f = n) (hs : WSeen l m D n i) : WSeen l (mPut m a.t (max (aget m a.t) (min (aget m n) a.c))) D n (i + 1) := by
  intro k b hb hd hk
  rw [put_done I hmin hd]
  by_cases hki : k = i
  · subst hki
    rw [ha] at hb
    cases hb
    rw [hf, aget_put, if_pos rfl]
    omega
  · have := hs k b hb hd (by omega)
    rw [aget_put]
    split
    · rename_i e; rw [e] at this; omega
    · exact this
theorem WSeen.skip {l : List Arc} {n : Int} {m : List (Int × Int)} {D : Int → Bool} {i : Nat} {a : Arc} (ha : l[i]? = some a) (hf : a.f ≠ n) (hs : WSeen l m D n i) : WSeen l m D n (i + 1) := by
  intro k b hb hd hk
  by_cases hki : k = i
  · subst hki
    rw [ha] at hb
    cases hb
    exact hs k a ha hd (.inl hf)
  · exact hs k b hb hd (by omega)
theorem winv_end {l : List Arc} {r : Int} {m : List (Int × Int)} {D : Int → Bool} (hl : ∀ a ∈ l, AOk a) (I : WInv l r m D) (hs : ∀ n, WSeen l m D n l.length) (hall : ∀ k ∈ mKeys m, D k = true) {w v : Int} (hw : 1 ≤ w) (hw2 : w ≤ 1073741825) (k : WConn l w r v) : w ≤ aget m v := by
  induction k with
  | refl => rw [I.root]; exact hw2
  | @step u a _ ha hu hwa ih =>
    obtain ⟨i, hi⟩ := List.mem_iff_getElem?.1 ha
    have hd : D u = true := hall u (aget_mem (by omega))
    have := hs u i a hi (by rw [hu]; exact hd) (.inr (List.getElem?_eq_some_iff.1 hi).1)
    rw [hu] at this
    omega

end A
end Go.Proofs.Ytkgemkadebgeoaa
