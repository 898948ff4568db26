/- What functions of the program compute: fib43q -/
import Derived.Test.YtkgemkadebgeoaaBfib43c
import Derived.Test.YtkgemkadebgeoaaProg
import Derived.KernelRfl
set_option linter.unusedVariables false
set_option linter.unusedSimpArgs false
namespace Go.Proofs.Ytkgemkadebgeoaa
namespace A

theorem ahd_lt {x y : Ent} : Ahd x y ↔ x.b < y.b ∨ (x.b = y.b ∧ x.n < y.n) := by
  simp only [Ahd, aheadE, Bool.or_eq_true, Bool.and_eq_true, decide_eq_true_eq, beq_iff_eq]
theorem same_iff {x y : Ent} : sameP x y = true ↔ x.b = y.b ∧ x.n = y.n := by simp [sameP]
theorem same_no {x y : Ent} : sameP x y = false ↔ ¬ (x.b = y.b ∧ x.n = y.n) := by rw [← same_iff, Bool.not_eq_true]
/-- An entry that is put into a list in order. -/
theorem put_ord {e : Ent} : ∀ {l : List Ent}, l.Pairwise Ahd → (putAux false l e).Pairwise Ahd ∧ ∀ x, x ∈ putAux false l e ↔ x = e ∨ (x ∈ l ∧ sameP x e = false)
  | [], _ => by simp [putAux]
  | y :: l, h => by
    obtain ⟨h1, h2⟩ := List.pairwise_cons.1 h
    obtain ⟨h3, h4⟩ := put_ord (e := e) h2
    have hy : ∀ z ∈ l, y.b < z.b ∨ (y.b = z.b ∧ y.n < z.n) := fun z hz => ahd_lt.1 (h1 z hz)
    cases ha : aheadE y e with
    | true =>
      have hye := ahd_lt.1 (show Ahd y e from ha)
      have hs : sameP y e = false := same_no.2 (by omega)
      simp only [putAux, ha, hs, Bool.not_true, Bool.and_false, Bool.false_eq_true, if_false, List.nil_append, List.cons_append, Bool.or_false]
      refine ⟨List.pairwise_cons.2 ⟨fun z hz => ?_, h3⟩, fun x => ?_⟩
      · rcases (h4 z).1 hz with rfl | ⟨hz, _⟩
        · exact ha
        · exact h1 z hz
      · rw [List.mem_cons, h4, List.mem_cons]
        constructor
        · rintro (rfl | rfl | ⟨a, b⟩)
          · exact .inr ⟨.inl rfl, hs⟩
          · exact .inl rfl
          · exact .inr ⟨.inr a, b⟩
        · rintro (rfl | ⟨rfl | a, b⟩)
          · exact .inr (.inl rfl)
          · exact .inl rfl
          · exact .inr (.inr ⟨a, b⟩)
    | false =>
      have hye : ¬ (y.b < e.b ∨ (y.b = e.b ∧ y.n < e.n)) := fun h => by rw [show aheadE y e = true from ahd_lt.2 h] at ha; cases ha
      simp only [putAux, ha, Bool.not_false, Bool.and_true, if_true, Bool.or_true]
      rw [putAux_true_filter]
      have hl : ∀ z ∈ l.filter (fun y => !sameP y e), z ∈ l ∧ sameP z e = false := fun z hz => by simpa using hz
      cases hs : sameP y e with
      | true =>
        have hse := same_iff.1 hs
        simp only [if_true, List.nil_append, List.cons_append]
        refine ⟨List.pairwise_cons.2 ⟨fun z hz => ahd_lt.2 ?_, h2.sublist List.filter_sublist⟩, fun x => ?_⟩
        · have := hy z (hl z hz).1; omega
        · simp only [List.mem_cons, List.mem_filter, Bool.not_eq_true']
          constructor
          · rintro (rfl | ⟨a, b⟩)
            · exact .inl rfl
            · exact .inr ⟨.inr a, b⟩
          · rintro (rfl | ⟨rfl | a, b⟩)
            · exact .inl rfl
            · rw [hs] at b; cases b
            · exact .inr ⟨a, b⟩
      | false =>
        have hse := same_no.1 hs
        simp only [Bool.false_eq_true, if_false, List.nil_append, List.cons_append]
        refine ⟨List.pairwise_cons.2 ⟨fun z hz => ahd_lt.2 ?_, List.pairwise_cons.2 ⟨fun z hz => h1 z (hl z hz).1, h2.sublist List.filter_sublist⟩⟩, fun x => ?_⟩
        · rcases List.mem_cons.1 hz with rfl | hz
          · omega
          · have := hy z (hl z hz).1; omega
        · simp only [List.mem_cons, List.mem_filter, Bool.not_eq_true']
          constructor
          · rintro (rfl | rfl | ⟨a, b⟩)
            · exact .inl rfl
            · exact .inr ⟨.inl rfl, hs⟩
            · exact .inr ⟨.inr a, b⟩
          · rintro (rfl | ⟨rfl | a, b⟩)
            · exact .inl rfl
            · exact .inr (.inl rfl)
            · exact .inr (.inr ⟨a, b⟩)
/-! ### The reference's table -/
def stepT (me : Int) (rs : List Rt) (cs : List E42) (tl : Way → Int) (t : List Ent) (e : E42) : List Ent :=
  if okP e.b e.n && (bestP me rs cs e.b e.n).isSome then putI (tl ((bestP me rs cs e.b e.n).getD ⟨0, 0, 0⟩) == 0) t e.b e.n (tl ((bestP me rs cs e.b e.n).getD ⟨0, 0, 0⟩)) else t
def tblF (me : Int) (rs : List Rt) (cs : List E42) (tl : Way → Int) : List Ent := cs.foldl (stepT me rs cs tl) []
def NZ (me : Int) (rs : List Rt) (cs : List E42) (tl : Way → Int) : Prop := ∀ b n w, bestP me rs cs b n = some w → tl w ≠ 0
def TInv (me : Int) (rs : List Rt) (cs : List E42) (tl : Way → Int) (ks : List E42) (t : List Ent) : Prop :=
  t.Pairwise Ahd ∧ ∀ e, e ∈ t ↔ ∃ w, okP e.b e.n = true ∧ bestP me rs cs e.b e.n = some w ∧ e.tv = tl w ∧ ∃ k ∈ ks, k.b = e.b ∧ k.n = e.n
theorem tinv_step {me : Int} {rs : List Rt} {cs : List E42} {tl : Way → Int} {ks : List E42} {t : List Ent} {k : E42} (hz : NZ me rs cs tl) (h : TInv me rs cs tl ks t) : TInv me rs cs tl (ks ++ [k]) (stepT me rs cs tl t k) := by
  obtain ⟨hs, hm⟩ := h
  unfold stepT
  split
  · rename_i hc
    rw [Bool.and_eq_true] at hc
    obtain ⟨w, hw⟩ := Option.isSome_iff_exists.1 hc.2
    obtain ⟨m, hn, _⟩ := okP_nat hc.1
    have hnz := hz _ _ _ hw
    rw [hw, Option.getD_some, hn, putI_nat, show (tl w == 0) = false by simpa using hnz]
    obtain ⟨h1, h2⟩ := put_ord (e := ⟨k.b, m, tl w⟩) hs
    refine ⟨h1, fun e => ?_⟩
    rw [h2, hm]
    constructor
    · rintro (rfl | ⟨⟨w', a, b, c, k', hk', d⟩, hne⟩)
      · exact ⟨w, by rw [← hn]; exact hc.1, by rw [← hn]; exact hw, rfl, k, by simp, rfl, hn⟩
      · exact ⟨w', a, b, c, k', by simp [hk'], d⟩
    · rintro ⟨w', a, b, c, k', hk', d1, d2⟩
      by_cases hk : e.b = k.b ∧ e.n = m
      · left
        rw [hk.1, hk.2, ← hn, hw] at b
        cases b
        cases e
        simp_all
      · right
        refine ⟨⟨w', a, b, c, ?_⟩, same_no.2 hk⟩
        rcases List.mem_append.1 hk' with hk' | hk'
        · exact ⟨k', hk', d1, d2⟩
        · rw [List.mem_singleton.1 hk'] at d1 d2
          exact absurd ⟨d1.symm, by omega⟩ hk
  · rename_i hc
    refine ⟨hs, fun e => ?_⟩
    rw [hm]
    constructor
    · rintro ⟨w', a, b, c, k', hk', d⟩
      exact ⟨w', a, b, c, k', by simp [hk'], d⟩
    · rintro ⟨w', a, b, c, k', hk', d1, d2⟩
      refine ⟨w', a, b, c, ?_⟩
      rcases List.mem_append.1 hk' with hk' | hk'
      · exact ⟨k', hk', d1, d2⟩
      · rw [List.mem_singleton.1 hk'] at d1 d2
        exfalso
        apply hc
        rw [d1, d2, b]
        simp [a]
theorem tinv_take {me : Int} {rs : List Rt} {cs : List E42} {tl : Way → Int} (hz : NZ me rs cs tl) : ∀ ks : List E42, TInv me rs cs tl ks (ks.foldl (stepT me rs cs tl) []) := by
  have : ∀ (ks js : List E42) (t : List Ent), TInv me rs cs tl js t → TInv me rs cs tl (js ++ ks) (ks.foldl (stepT me rs cs tl) t) := fun ks => by
    induction ks with
    | nil => intro js t h; simpa using h
    | cons k ks ih =>
      intro js t h
      have := ih (js ++ [k]) _ (tinv_step hz h)
      rwa [List.append_assoc] at this
  intro ks
  have := this ks [] [] ⟨.nil, fun e => ⟨fun h => by simp at h, fun ⟨_, _, _, _, k, hk, _⟩ => by simp at hk⟩⟩
  simpa using this
theorem tblF_is {me : Int} {rs : List Rt} {cs : List E42} {tl : Way → Int} (hz : NZ me rs cs tl) : Tbl me rs cs tl (tblF me rs cs tl) where
  s := (tinv_take hz cs).1
  m := fun e => by
    rw [tblF, (tinv_take hz cs).2]
    constructor
    · rintro ⟨w, a, b, c, _⟩
      exact ⟨w, a, b, c⟩
    · rintro ⟨w, a, b, c⟩
      obtain ⟨k, hk, h1, h2, _⟩ := bestP_of b
      exact ⟨w, a, b, c, k, hk, h1, h2⟩
/-! ### Where a table sends -/
def putE (t : List Ent) (e : E42) : List Ent := if okP e.b e.n && e.tv != 0 then putI (e.tv == 0) t e.b e.n e.tv else t
def sentE (l : List E42) (a : Nat) : Ent := refFind (l.foldl putE []) a ⟨0, 0, 0⟩
def sent (l : List E42) (a : Nat) : Int := (sentE l a).tv
def ofE (e : Ent) : E42 := ⟨e.b, e.n, e.tv⟩
theorem ofE_map (t : List Ent) : (t.map ofE).map e42C = t.map entC := by rw [List.map_map]; rfl
/-- A list in order is what it is put to be. -/
theorem put_all_ord {t : List Ent} (hs : t.Pairwise Ahd) (hok : ∀ e ∈ t, okP e.b e.n = true ∧ e.tv ≠ 0) : (t.map ofE).foldl putE [] = t := by
  have : ∀ (u s : List Ent), (s ++ u).Pairwise Ahd → (∀ e ∈ u, okP e.b e.n = true ∧ e.tv ≠ 0) → (u.map ofE).foldl putE s = s ++ u := fun u => by
    induction u with
    | nil => intro s _ _; simp
    | cons e u ih =>
      intro s h ho
      obtain ⟨h1, h2⟩ := ho e (by simp)
      have hput : putE s (ofE e) = s ++ [e] := by
        unfold putE ofE
        rw [if_pos (by simp [h1, h2])]
        show putI (e.tv == 0) s e.b e.n e.tv = _
        rw [putI_nat, show (e.tv == 0) = false by simpa using h2]
        have h3 : (putAux false s e).Pairwise Ahd := (put_ord (h.sublist (List.sublist_append_left _ _))).1
        have h4 := (put_ord (e := e) (h.sublist (List.sublist_append_left s (e :: u)))).2
        have h5 : (s ++ [e]).Pairwise Ahd := h.sublist (List.Sublist.append_left (List.singleton_sublist.2 (by simp)) s)
        refine sorted_eq (show (putAux false s ⟨e.b, e.n, e.tv⟩).Pairwise Ahd from h3) h5 ((List.perm_ext_iff_of_nodup (ahd_nodup h3) (ahd_nodup h5)).2 (fun x => ?_))
        rw [h4, List.mem_append, List.mem_singleton]
        constructor
        · rintro (rfl | ⟨a, _⟩)
          · exact .inr rfl
          · exact .inl a
        · rintro (a | rfl)
          · refine .inr ⟨a, same_no.2 ?_⟩
            have := ahd_lt.1 ((List.pairwise_append.1 h).2.2 x a e (by simp))
            omega
          · exact .inl rfl
      rw [List.map_cons, List.foldl_cons, hput, ih (s ++ [e]) (by simpa using h) (fun x hx => ho x (by simp [hx]))]
      simp
  simpa using this t [] (by simpa using hs) hok

end A
end Go.Proofs.Ytkgemkadebgeoaa
