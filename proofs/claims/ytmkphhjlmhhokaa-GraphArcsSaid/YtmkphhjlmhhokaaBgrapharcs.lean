/- What functions of the program compute: grapharcs -/
import Derived.Test.YtmkphhjlmhhokaaBrefs24
import Derived.Test.YtmkphhjlmhhokaaProg
import Derived.KernelRfl
set_option linter.unusedVariables false
set_option linter.unusedSimpArgs false
namespace Go.Proofs.Ytmkphhjlmhhokaa
namespace A

theorem costNil (n : Int) : costL [] n = 0 := rfl
theorem refGet_mem {db : List Lsa} {n : Int} : refGet db n ∈ db ∨ refGet db n = ⟨0, 0, []⟩ := by
  unfold refGet
  cases hf : db.find? (fun l => l.o == n) with
  | none => exact .inr rfl
  | some x => exact .inl (List.mem_of_find?_eq_some hf)
theorem refGet_len {db : List Lsa} (hm : ∀ x ∈ db, x.ls.length ≤ 40) (n : Int) : (refGet db n).ls.length ≤ 4000 := by
  rcases refGet_mem (db := db) (n := n) with h | h
  · have := hm _ h; omega
  · rw [h]; simp
theorem fm_take {α β : Type} {f : α → Option β} {l : List α} {i : Nat} {a : α} (h : l[i]? = some a) : (l.take (i + 1)).filterMap f = (l.take i).filterMap f ++ (f a).toList := by rw [take_step h, List.filterMap_append]; cases hq : f a <;> simp [hq]
theorem flat_take {α β : Type} {f : α → List β} {l : List α} {i : Nat} {a : α} (h : l[i]? = some a) : (l.take (i + 1)).flatMap f = (l.take i).flatMap f ++ f a := by rw [take_step h, List.flatMap_append]; simp

/- waymarkref24.Arcs -/
def ref24_Arcs_r9_T : Bool × List (List Nat × List Nat) := (true, [([], []), ([], []), ([1], [1]), ([0, 2], [0, 2]), ([], []), ([], []), ([4, 5], [4, 5]), ([6], [6]), ([7], [7]), ([3, 8, 3], [3, 8]), ([9], [9])])
def ref24_Arcs_r9_B : List Nat := [0, 0, 2, 7, 0, 0, 48, 112, 240, 511, 1023]
theorem ref24_Arcs_r9_t : Go.Proofs.YtmkphhjlmhhokaaW.PrintLast.rtab .any (Go.Proofs.YtmkphhjlmhhokaaW.PrintLast.opsOf Try.f15 9) = ref24_Arcs_r9_T := by kernel_rfl
theorem ref24_Arcs_r9_b : Go.Proofs.YtmkphhjlmhhokaaW.PrintLast.waitsOk ref24_Arcs_r9_T.2 ref24_Arcs_r9_B = true := by kernel_rfl
def ref24_Arcs_r10_T : Bool × List (List Nat × List Nat) := (true, [([], []), ([], []), ([], []), ([1, 2], [1, 2]), ([3], [3]), ([4], [4]), ([], []), ([6], [6]), ([], []), ([8], [8]), ([5, 7, 9], [5, 7, 9]), ([10], [10]), ([0, 11], [0, 11]), ([12, 12, 0, 1, 2, 3, 4, 5, 6, 7, 8, 9, 10, 11, 12], [0, 12])])
def ref24_Arcs_r10_B : List Nat := [0, 0, 0, 6, 14, 30, 0, 64, 0, 256, 1022, 2046, 4095, 8191]
theorem ref24_Arcs_r10_t : Go.Proofs.YtmkphhjlmhhokaaW.PrintLast.rtab .any (Go.Proofs.YtmkphhjlmhhokaaW.PrintLast.opsOf Try.f15 10) = ref24_Arcs_r10_T := by kernel_rfl
theorem ref24_Arcs_r10_b : Go.Proofs.YtmkphhjlmhhokaaW.PrintLast.waitsOk ref24_Arcs_r10_T.2 ref24_Arcs_r10_B = true := by kernel_rfl
set_option maxRecDepth 100000 in
set_option maxHeartbeats 2000000 in
theorem ref24_Arcs (db : List Lsa) (hl : db.length ≤ 70) (hm : ∀ x ∈ db, x.ls.length ≤ 40) : Triple Try.prog 15 [AV.sl 3 (db.map lsaC)] [] (fun r h' => ∃ g c, r = .v (slV g (refAll db).length c) ∧ h' = [.sl g c 34 3 ((refAll db).map arcC)]) := by
  refine triple_of Try.func15 rfl (by kernel_rfl) rfl (by simp) ?_
  refine aSeq ?_
  refine aReg ?_
  refine oP rfl (by exact pMv (.inr rfl) rfl) rfl (by decide) ?_
  refine oNil ?_
  refine aSeq ?_
  refine aReg ?_
  refine oQ rfl ?_
  refine qLit (l := []) rfl rfl (by decide) us_31 ty_34 ze_34 rfl (by decide) (by decide) rfl rfl rfl (fun b7 => ?_)
  refine oP rfl (by exact pMv (.inr rfl) rfl) rfl (by decide) ?_
  refine oNil ?_
  refine aSeq ?_
  refine aSeq ?_
  refine aReg ?_
  refine oP rfl (by exact pMv (.inr rfl) rfl) rfl (by decide) ?_
  refine oNil ?_
  refine aBlock ?_
  refine aLoopI (α := Nat × Option Nat × Nat) (fun (i, g, c) => i ≤ db.length ∧ ((db.take i).flatMap (refArcs db)).length ≤ i * 40) (fun (i, g, c) => ([(0, AV.sl 3 (db.map lsaC)), (4, .int i), (3, .v (slV g ((db.take i).flatMap (refArcs db)).length c))], [.sl g c 34 3 (((db.take i).flatMap (refArcs db)).map arcC)])) (fun (i, g, c) => db.length - i) (0, some b7, 0) ?_ ?_ ?_
  · skip
    exact ⟨by omega, by simp⟩
  · skip
    exact weak_sub ⟨rfl, gInt rfl (by simp), rfl, trivial⟩ (by repeat constructor)
  · rintro ⟨i, g, c⟩ ⟨hi, hn⟩
    skip
    refine aSeq ?_
    refine aSeq ?_
    refine aReg ?_
    refine oP rfl (by exact pMv (.inl rfl) rfl) rfl (by decide) ?_
    refine oP rfl (by exact pMv (.inl rfl) rfl) rfl (by decide) ?_
    refine oP rfl (by first | exact pLenS' (pLenS rfl rfl sl_29) (List.length_map _) | exact pLenS rfl rfl sl_29 | exact pLenV rfl rfl sl_29) rfl (by decide) ?_
    refine oP rfl (by exact pBin rfl rfl rfl rfl rfl) rfl (by decide) ?_
    refine oNil ?_
    refine aCondDec rfl (fun c11 => ?_) (fun c11 => ?_)
    · skip
      refine aSkip ?_
      refine aSeq ?_
      refine aBlock ?_
      refine aSeq ?_
      refine aReg ?_
      refine oP rfl (by exact pMv (.inr rfl) rfl) rfl (by decide) ?_
      refine oNil ?_
      refine aBlock ?_
      obtain ⟨l, hl2⟩ : ∃ l, db[i]? = some l := ⟨_, List.getElem?_eq_getElem (by omega)⟩
      have hl40 := hm l (List.mem_of_getElem? hl2)
      refine aLoopI (α := Nat × Option Nat × Nat) (fun (k, g', c') => k ≤ l.ls.length ∧ ((l.ls.take k).filterMap (refArc db l)).length ≤ k) (fun (k, g', c') => ([(0, AV.sl 3 (db.map lsaC)), (4, .int i), (5, .int k), (3, .v (slV g' ((db.take i).flatMap (refArcs db) ++ (l.ls.take k).filterMap (refArc db l)).length c'))], [.sl g' c' 34 3 (((db.take i).flatMap (refArcs db) ++ (l.ls.take k).filterMap (refArc db l)).map arcC)])) (fun (k, g', c') => l.ls.length - k) (0, g, c) ?_ ?_ ?_
      · skip
        exact ⟨by omega, by simp⟩
      · skip
        simp only [List.take_zero, List.filterMap_nil, List.append_nil]
        exact weak_sub ⟨rfl, rfl, gInt rfl (by simp), rfl, trivial⟩ (by repeat constructor)
      · rintro ⟨k, g', c'⟩ ⟨hk, hnk⟩
        skip
        refine aSeq ?_
        refine aSeq ?_
        refine aReg ?_
        refine oP rfl (by exact pMv (.inl rfl) rfl) rfl (by decide) ?_
        refine oP rfl (by exact pMv (.inl rfl) rfl) rfl (by decide) ?_
        refine oP rfl (by exact pMv (.inl rfl) rfl) rfl (by decide) ?_
        refine oP rfl (by exact pIdxS rfl rfl rfl es_29 (by omega) (map_get (f := lsaC) hl2)) rfl (by decide) ?_
        refine oP rfl (by first | exact pFldB rfl rfl fd_52_2 | exact pFldS rfl rfl fd_52_2) rfl (by decide) ?_
        refine oR rfl (by first | exact rLdS1 rfl rfl ty_50 rfl | exact rLdB1 rfl rfl (by repeat constructor) ty_50 rfl) rfl (by decide) ?_
        refine oP rfl (by first | exact pLenS' (pLenS rfl rfl sl_50) (List.length_map _) | exact pLenS rfl rfl sl_50 | exact pLenV rfl rfl sl_50) rfl (by decide) ?_
        refine oP rfl (by exact pBin rfl rfl rfl rfl rfl) rfl (by decide) ?_
        refine oNil ?_
        refine aCondDec rfl (fun c21 => ?_) (fun c21 => ?_)
        · skip
          refine aSkip ?_
          refine aSeq ?_
          refine aBlock ?_
          refine aSeq ?_
          refine aReg ?_
          refine oP rfl (by exact pMv (.inl rfl) rfl) rfl (by decide) ?_
          refine oP rfl (by exact pMv (.inl rfl) rfl) rfl (by decide) ?_
          obtain ⟨x, hx⟩ : ∃ x, l.ls[k]? = some x := ⟨_, List.getElem?_eq_getElem (by omega)⟩
          refine oP rfl (by exact pIdxS rfl rfl rfl es_29 (by omega) (map_get (f := lsaC) hl2)) rfl (by decide) ?_
          refine oP rfl (by first | exact pFldB rfl rfl fd_52_2 | exact pFldS rfl rfl fd_52_2) rfl (by decide) ?_
          refine oR rfl (by first | exact rLdS1 rfl rfl ty_50 rfl | exact rLdB1 rfl rfl (by repeat constructor) ty_50 rfl) rfl (by decide) ?_
          refine oP rfl (by exact pMv (.inl rfl) rfl) rfl (by decide) ?_
          refine oP rfl (by exact pIdxS rfl rfl rfl es_50 (by omega) (map_get (f := linkC) hx)) rfl (by decide) ?_
          refine oR rfl (by first | exact rLdSA rfl rfl ty_54 (Nat.le_of_ble_eq_true rfl) | exact rLdBA rfl rfl (by repeat constructor) ty_54 (Nat.le_of_ble_eq_true rfl)) rfl (by decide) ?_
          refine oQ rfl ?_
          refine qAlloc rfl rfl (by decide) ze_54 rfl (fun b6 => ?_)
          refine oA rfl ?_
          refine oStB rfl rfl rfl rfl (by repeat constructor) ty_54 rfl (Nat.le_of_ble_eq_true rfl) rfl ?_
          refine oNil ?_
          refine aSeq ?_
          refine aDrawT ref24_Arcs_r9_t ref24_Arcs_r9_b [] 11 #[false, false, false, false, false, false, false, false, false, false, false] (by kernel_rfl) rfl rfl (fun HT => ?_)
          refine dPure (i := 0) #[true, false, false, false, false, false, false, false, false, false, false] rfl rfl rfl (HT.any (by kernel_rfl)) (by exact pMv (.inl rfl) rfl) (by decide) ?_
          refine dPure (i := 1) #[true, true, false, false, false, false, false, false, false, false, false] rfl rfl rfl (HT.any (by kernel_rfl)) (by first | exact pFldB rfl rfl fd_54_0 | exact pFldS rfl rfl fd_54_0) (by decide) ?_
          refine dTake (i := 2) #[true, true, true, false, false, false, false, false, false, false, false] rfl rfl rfl (HT.take (by kernel_rfl)) (by first | exact rLdS1 rfl rfl ty_3 rfl | exact rLdB1 rfl rfl (by repeat constructor) ty_3 rfl) (by decide) ?_
          refine dPure (i := 4) #[true, true, true, false, true, false, false, false, false, false, false] rfl rfl rfl (HT.any (by kernel_rfl)) (by exact pMv (.inl rfl) rfl) (by decide) ?_
          refine dPure (i := 5) #[true, true, true, false, true, true, false, false, false, false, false] rfl rfl rfl (HT.any (by kernel_rfl)) (by exact pMv (.inl rfl) rfl) (by decide) ?_
          refine dPure (i := 6) #[true, true, true, false, true, true, true, false, false, false, false] rfl rfl rfl (HT.any (by kernel_rfl)) (by exact pIdxS rfl rfl rfl es_29 (by omega) (map_get (f := lsaC) hl2)) (by decide) ?_
          refine dPure (i := 7) #[true, true, true, false, true, true, true, true, false, false, false] rfl rfl rfl (HT.any (by kernel_rfl)) (by first | exact pFldB rfl rfl fd_52_0 | exact pFldS rfl rfl fd_52_0) (by decide) ?_
          refine dTake (i := 8) #[true, true, true, false, true, true, true, true, true, false, false] rfl rfl rfl (HT.take (by kernel_rfl)) (by first | exact rLdS1 rfl rfl ty_3 rfl | exact rLdB1 rfl rfl (by repeat constructor) ty_3 rfl) (by decide) ?_
          refine dGo ?_
          refine eOneF (i := 3) #[true, true, true, true, true, true, true, true, true, false, false] rfl rfl rfl rfl (HT.one (by kernel_rfl)) (by decide) (by decide) ?_
          refine qCall0 rfl rfl (by decide) rfl rfl (ref11_Get db x.t (by omega)) ?_
          rintro _ _ ⟨rfl, rfl⟩
          refine eOneF (i := 9) #[true, true, true, true, true, true, true, true, true, true, false] rfl rfl rfl rfl (HT.one (by kernel_rfl)) (by decide) (by decide) ?_
          refine qCallV rfl rfl (by decide) rfl rfl (lents_refl _) (ref09_Cost (refGet db x.t) l.o (refGet_len hm _)) ?_
          refine ePureF (i := 10) #[true, true, true, true, true, true, true, true, true, true, true] rfl rfl rfl rfl (HT.any (by kernel_rfl)) (by exact pBin rfl rfl rfl rfl rfl) (by decide) ?_
          refine eLast (fEnd (HT.done (by kernel_rfl)) ?_)
          clear HT
          refine aCondDec rfl (fun c42 => ?_) (fun c42 => ?_)
          · skip
            refine aDrawT ref24_Arcs_r10_t ref24_Arcs_r10_b [12] 14 #[false, false, false, false, false, false, false, false, false, false, false, false, false, false] (by kernel_rfl) rfl rfl (fun HT => ?_)
            refine dPure (i := 0) #[true, false, false, false, false, false, false, false, false, false, false, false, false, false] rfl rfl rfl (HT.any (by kernel_rfl)) (by exact pMv (.inl rfl) rfl) (by decide) ?_
            refine dPure (i := 1) #[true, true, false, false, false, false, false, false, false, false, false, false, false, false] rfl rfl rfl (HT.any (by kernel_rfl)) (by exact pMv (.inl rfl) rfl) (by decide) ?_
            refine dPure (i := 2) #[true, true, true, false, false, false, false, false, false, false, false, false, false, false] rfl rfl rfl (HT.any (by kernel_rfl)) (by exact pMv (.inl rfl) rfl) (by decide) ?_
            refine dPure (i := 3) #[true, true, true, true, false, false, false, false, false, false, false, false, false, false] rfl rfl rfl (HT.any (by kernel_rfl)) (by exact pIdxS rfl rfl rfl es_29 (by omega) (map_get (f := lsaC) hl2)) (by decide) ?_
            refine dPure (i := 4) #[true, true, true, true, true, false, false, false, false, false, false, false, false, false] rfl rfl rfl (HT.any (by kernel_rfl)) (by first | exact pFldB rfl rfl fd_52_0 | exact pFldS rfl rfl fd_52_0) (by decide) ?_
            refine dTake (i := 5) #[true, true, true, true, true, true, false, false, false, false, false, false, false, false] rfl rfl rfl (HT.take (by kernel_rfl)) (by first | exact rLdS1 rfl rfl ty_3 rfl | exact rLdB1 rfl rfl (by repeat constructor) ty_3 rfl) (by decide) ?_
            refine dPure (i := 6) #[true, true, true, true, true, true, true, false, false, false, false, false, false, false] rfl rfl rfl (HT.any (by kernel_rfl)) (by first | exact pFldB rfl rfl fd_54_0 | exact pFldS rfl rfl fd_54_0) (by decide) ?_
            refine dTake (i := 7) #[true, true, true, true, true, true, true, true, false, false, false, false, false, false] rfl rfl rfl (HT.take (by kernel_rfl)) (by first | exact rLdS1 rfl rfl ty_3 rfl | exact rLdB1 rfl rfl (by repeat constructor) ty_3 rfl) (by decide) ?_
            refine dPure (i := 8) #[true, true, true, true, true, true, true, true, true, false, false, false, false, false] rfl rfl rfl (HT.any (by kernel_rfl)) (by first | exact pFldB rfl rfl fd_54_1 | exact pFldS rfl rfl fd_54_1) (by decide) ?_
            refine dTake (i := 9) #[true, true, true, true, true, true, true, true, true, true, false, false, false, false] rfl rfl rfl (HT.take (by kernel_rfl)) (by first | exact rLdS1 rfl rfl ty_3 rfl | exact rLdB1 rfl rfl (by repeat constructor) ty_3 rfl) (by decide) ?_
            refine dPure (i := 10) #[true, true, true, true, true, true, true, true, true, true, true, false, false, false] rfl rfl rfl (HT.any (by kernel_rfl)) (by exact pBuild rfl st_34 ze_34 rfl rfl rfl rfl) (by decide) ?_
            refine dGo ?_
            refine eOneF (i := 11) #[true, true, true, true, true, true, true, true, true, true, true, true, false, false] rfl rfl rfl rfl (HT.one (by kernel_rfl)) (by decide) (by decide) ?_
            refine qLit (l := [_]) rfl rfl (by decide) us_31 ty_34 ze_34 rfl (by decide) (by decide) rfl rfl rfl (fun b54 => ?_)
            refine eLast ?_
            refine fOne (i := 12) #[true, true, true, true, true, true, true, true, true, true, true, true, true, false] rfl rfl (HT.one (by kernel_rfl)) (by decide) ?_
            refine oApp rfl rfl (by decide) rfl (by repeat constructor) (by simp) (srcOwn rfl (by repeat constructor) rfl) el_31 sl_31 (by intro z hz; rcases List.mem_cons.1 hz with rfl | hz; rfl; cases hz) (by rw [List.length_map, List.length_append]; show _ + 1 ≤ _; omega) (by rw [List.length_map, List.length_append]; show (_ + 1) * 24 ≤ _; omega) (fun g55 k55 => ?_)
            refine fPure (i := 13) #[true, true, true, true, true, true, true, true, true, true, true, true, true, true] rfl rfl rfl (HT.any (by kernel_rfl)) (by exact pMv (.inr rfl) rfl) (by decide) ?_
            refine fEnd (HT.done (by kernel_rfl)) ?_
            clear HT
            refine aReg ?_
            refine oP rfl (by exact pMv (.inl rfl) rfl) rfl (by decide) ?_
            refine oP rfl (by exact pAdd rfl rfl rfl (by omega) (by omega)) rfl (by decide) ?_
            refine oP rfl (by exact pMv (.inr rfl) rfl) rfl (by decide) ?_
            refine oNil ?_
            have hst := fm_take (f := refArc db l) hx
            first
              | (have hq : refArc db l x = some ⟨l.o, x.t, x.c⟩ := by simp only [refArc]; rw [if_pos (by omega)]
                 rw [hq] at hst
                 refine ⟨(k + 1, g55, k55), ⟨by omega, ?_⟩, by show l.ls.length - (k + 1) < l.ls.length - k; omega, ?_⟩
                 · rw [hst, List.length_append]; simp; omega
                 · simp only [hst, Option.toList_some, ← List.append_assoc]
                   exact weak_sub ⟨rfl, rfl, gInt rfl (by simp), gLen rfl (by simp; omega), trivial⟩ (by rw [List.map_append (l₂ := [_])]; repeat constructor))
              | (have hq : refArc db l x = none := by simp only [refArc]; rw [if_neg (by omega)]
                 rw [hq] at hst
                 refine ⟨(k + 1, g', c'), ⟨by omega, ?_⟩, by show l.ls.length - (k + 1) < l.ls.length - k; omega, ?_⟩
                 · rw [hst, List.length_append]; simp; omega
                 · simp only [hst, Option.toList_none, List.append_nil]
                   exact weak_sub ⟨rfl, rfl, gInt rfl (by simp), rfl, trivial⟩ (by repeat constructor))
          · skip
            refine aSkip ?_
            refine aReg ?_
            refine oP rfl (by exact pMv (.inl rfl) rfl) rfl (by decide) ?_
            refine oP rfl (by exact pAdd rfl rfl rfl (by omega) (by omega)) rfl (by decide) ?_
            refine oP rfl (by exact pMv (.inr rfl) rfl) rfl (by decide) ?_
            refine oNil ?_
            have hst := fm_take (f := refArc db l) hx
            first
              | (have hq : refArc db l x = some ⟨l.o, x.t, x.c⟩ := by simp only [refArc]; rw [if_pos (by omega)]
                 rw [hq] at hst
                 refine ⟨(k + 1, g55, k55), ⟨by omega, ?_⟩, by show l.ls.length - (k + 1) < l.ls.length - k; omega, ?_⟩
                 · rw [hst, List.length_append]; simp; omega
                 · simp only [hst, Option.toList_some, ← List.append_assoc]
                   exact weak_sub ⟨rfl, rfl, gInt rfl (by simp), gLen rfl (by simp; omega), trivial⟩ (by rw [List.map_append (l₂ := [_])]; repeat constructor))
              | (have hq : refArc db l x = none := by simp only [refArc]; rw [if_neg (by omega)]
                 rw [hq] at hst
                 refine ⟨(k + 1, g', c'), ⟨by omega, ?_⟩, by show l.ls.length - (k + 1) < l.ls.length - k; omega, ?_⟩
                 · rw [hst, List.length_append]; simp; omega
                 · simp only [hst, Option.toList_none, List.append_nil]
                   exact weak_sub ⟨rfl, rfl, gInt rfl (by simp), rfl, trivial⟩ (by repeat constructor))
        · skip
          refine aExit rfl ?_
          refine aReg ?_
          refine oP rfl (by exact pMv (.inl rfl) rfl) rfl (by decide) ?_
          refine oP rfl (by exact pAdd rfl rfl rfl (by omega) (by omega)) rfl (by decide) ?_
          refine oP rfl (by exact pMv (.inr rfl) rfl) rfl (by decide) ?_
          refine oNil ?_
          have hke : k = l.ls.length := by omega
          have hstep := flat_take (f := refArcs db) hl2
          have hfl : refArcs db l = (l.ls.take k).filterMap (refArc db l) := by rw [hke, List.take_length]; rfl
          rw [hfl] at hstep
          refine ⟨(i + 1, g', c'), ⟨by omega, ?_⟩, by show db.length - (i + 1) < db.length - i; omega, ?_⟩
          · have := hm l (List.mem_of_getElem? hl2); rw [hstep, List.length_append]; omega
          · simp only [hstep]
            exact weak_sub ⟨rfl, gInt rfl (by simp), rfl, trivial⟩ (by repeat constructor)
    · skip
      refine aExit rfl ?_
      refine aSeq ?_
      refine aReg ?_
      refine oP rfl (by exact pMv (.inl rfl) rfl) rfl (by decide) ?_
      refine oP rfl (by exact pMv (.inr rfl) rfl) rfl (by decide) ?_
      refine oNil ?_
      refine aRet ?_
      have hie : i = db.length := by omega
      refine ⟨_, [_], _, rfl, .cons .hd .nil, g, c, ?_, ?_⟩
      · rw [refAll, hie, List.take_length]; rfl
      · rw [refAll, hie, List.take_length]

end A
end Go.Proofs.Ytmkphhjlmhhokaa
