/- What functions of the program compute: law38 -/
import Derived.Test.YtkgemkadebgeoaaBwide38c
import Derived.Test.YtkgemkadebgeoaaProg
import Derived.KernelRfl
set_option linter.unusedVariables false
set_option linter.unusedSimpArgs false
namespace Go.Proofs.Ytkgemkadebgeoaa
namespace A

theorem ar_69 : arrOf Try.prog 69 = some (3, 1) := by kernel_rfl
theorem eq_151 : eqType Try.prog 151 = some [(0, .i), (1, .i)] := by kernel_rfl
theorem st_147 : structPlaces Try.prog 147 = some [(0, 1), (1, 1), (2, 1)] := by kernel_rfl
theorem us_68 : Try.prog.underlying 68 = some (.slice 147) := by kernel_rfl
def wB (l : List Arc) (r v : Int) : Int := if v = r then 0 else wF l r v
theorem wide_third {l : List Arc} (hl : ∀ a ∈ l, AOk a) {x y z : Int} (hx0 : 1 ≤ x) (hx1 : x ≤ 64) (hy0 : 1 ≤ y) (hy1 : y ≤ 64) (hxz : x ≠ z) (h1 : 0 < wB l x y) (h2 : 0 < wB l y z) : min (wB l x y) (wB l y z) ≤ wB l x z := by
  unfold wB at *
  split at h1
  · omega
  · rename_i e1
    split at h2
    · omega
    · rename_i e2
      rw [if_neg e1, if_neg e2, if_neg (fun e => hxz e.symm)]
      have a := (wF_iff hl (by omega) hx1 e1 (w := min (wF l x y) (wF l y z)) (by omega)).1 (by omega)
      have b := (wF_iff hl (by omega) hy1 e2 (w := min (wF l x y) (wF l y z)) (by omega)).1 (by omega)
      exact (wF_iff hl (by omega) hx1 (fun e => hxz e.symm) (by omega)).2 (a.trans b)
theorem wide_in {l : List Arc} (hl : ∀ a ∈ l, AOk a) {x z : Int} (hx0 : 1 ≤ x) (hx1 : x ≤ 64) (hxz : x ≠ z) (h : wB l x z ≠ 0) : reachW l (wB l x z) x z = true := by
  have h2 := wF_range hl x z
  unfold wB at *
  rw [if_neg (fun e => hxz e.symm)] at *
  exact (reachW_iff hl (by omega) hx1).2 ((wF_iff hl (by omega) hx1 (fun e => hxz e.symm) (by omega)).1 (Int.le_refl _))
theorem wide_more {l : List Arc} (hl : ∀ a ∈ l, AOk a) {x z : Int} (hx0 : 1 ≤ x) (hx1 : x ≤ 64) (hxz : x ≠ z) : reachW l (wB l x z + 1) x z = false := by
  have h2 := wF_range hl x z
  unfold wB at *
  rw [if_neg (fun e => hxz e.symm)] at *
  cases hr : reachW l (wF l x z + 1) x z with
  | false => rfl
  | true =>
    have := (wF_iff hl (by omega) hx1 (fun e => hxz e.symm) (by omega)).2 ((reachW_iff hl (by omega) hx1).1 hr)
    omega
theorem wB_range {l : List Arc} (hl : ∀ a ∈ l, AOk a) (r v : Int) : 0 ≤ wB l r v ∧ wB l r v ≤ 1073741824 := by
  have := wF_range hl r v
  unfold wB
  split <;> omega
def wL : List Arc := [⟨1, 2, 1⟩, ⟨1, 3, 4⟩, ⟨3, 2, 4⟩]
def wS : List Spot := [⟨4, 2⟩, ⟨4, 3⟩]
theorem wL_S : (if arcsB none wL && decide ((1 : Int) ≤ 1) && decide ((1 : Int) ≤ 64) then wSpots wL 1 else []) = wS := by decide +kernel
theorem wL_12 : (if (2 : Int) = 1 then 0 else wF wL 1 2) = 4 := by decide +kernel
theorem wL_21 : (if (1 : Int) = 2 then 0 else wF wL 2 1) = 0 := by decide +kernel

/- waymarklaw38.awake -/
set_option maxRecDepth 100000 in
set_option maxHeartbeats 400000 in
theorem law38_awake  : Triple Try.prog 38 [] [] (Is (.v (.bool true)) []) := by
  refine triple_of Try.func38 rfl (by kernel_rfl) rfl (by simp) ?_
  refine aSeq ?_
  refine aReg ?_
  refine sp pMa ?_
  refine oNil ?_
  refine aSeq ?_
  refine aReg ?_
  refine sp (pBuild rfl st_147 ze_147 rfl rfl rfl rfl) ?_
  refine sp (pBuild rfl st_147 ze_147 rfl rfl rfl rfl) ?_
  refine sp (pBuild rfl st_147 ze_147 rfl rfl rfl rfl) ?_
  refine sq ?_
  refine qLit (l := [_, _, _]) rfl rfl (by decide) us_68 ty_147 ze_147 rfl (by decide) (by decide) rfl rfl rfl (fun b6 => ?_)
  refine oWeak (weak_settle (k := 6) rfl .hd rfl) ?_
  refine sp pMa ?_
  refine oNil ?_
  refine aSeq ?_
  refine aReg ?_
  refine sp pM ?_
  refine sq ?_
  refine ci rfl rfl rfl (wide_Widths_s (l := wL) (r := 1) (by decide)) ?_
  rw [wL_S]
  refine sp pMa ?_
  refine oNil ?_
  refine aSeq ?_
  have h0 : wS[(0 : Int).toNat]? = some ⟨4, 2⟩ := rfl
  refine aReg ?_
  refine sp pM ?_
  refine sp (by first | exact pLm sl_148 | exact pLs sl_148 | exact pLv sl_148) ?_
  refine sp pB ?_
  refine sp pM ?_
  refine gp pM ?_
  first | refine gp (pIx es_148) ?_ | refine gp (pIo es_148) ?_
  refine gr (by first | exact rSW ty_151 rfl | exact rSA ty_151 | exact rBWa ty_151 | exact rBW ty_151 | exact rBA ty_151 | exact rArA ty_151 (fun _ => rfl)) ?_
  refine gp (pBuild rfl st_151 ze_151 rfl rfl rfl rfl) ?_
  refine gp (pEqA rfl (.inl rfl) rfl rfl eq_151 rfl rfl) ?_
  refine sp pK ?_
  refine sp pM ?_
  refine gp pM ?_
  refine ga ?_
  refine (cv rfl rfl rfl (lents_refl _) (wide_Between (l := wL) (r := 1) (v := 2) (by decide) (by decide) (by decide) (by decide)) ?_).op
  rw [wL_12]
  refine gp pB ?_
  refine sp pK ?_
  refine sp pM ?_
  refine gp pM ?_
  refine ga ?_
  refine (cv rfl rfl rfl (lents_refl _) (wide_Between (l := wL) (r := 2) (v := 1) (by decide) (by decide) (by decide) (by decide)) ?_).op
  rw [wL_21]
  refine gp pB ?_
  refine sp pK ?_
  refine sp pMa ?_
  refine oNil ?_
  refine aRet ?_
  refine finIs rfl ?_
  rfl

/- waymarklaw38.WideThird -/
def law38_WideThird_r3_T : Bool × List (List Nat × List Nat) := (true, [([], []), ([], []), ([1], [1]), ([], []), ([3], [3]), ([0, 2, 4], [0, 2, 4]), ([], []), ([], []), ([7], [7]), ([], []), ([9], [9]), ([6, 8, 10, 5], [6, 8, 10]), ([], []), ([], []), ([13], [13]), ([], []), ([15], [15]), ([12, 14, 16, 11], [12, 14, 16]), ([5, 17, 0, 1, 2, 3, 4, 5], [5]), ([11, 18, 0, 1, 2, 3, 4, 5, 6, 7, 8, 9, 10, 11, 18], [11]), ([17, 19, 0, 1, 2, 3, 4, 5, 6, 7, 8, 9, 10, 11, 12, 13, 14, 15, 16, 17, 18, 19], [17])])
def law38_WideThird_r3_B : List Nat := [0, 0, 2, 0, 8, 31, 0, 0, 128, 0, 512, 2047, 0, 0, 8192, 0, 32768, 131071, 262143, 524287, 1048575]
theorem law38_WideThird_r3_t : Go.Proofs.YtkgemkadebgeoaaW.PrintLast.rtab .any (Go.Proofs.YtkgemkadebgeoaaW.PrintLast.opsOf Try.f8 3) = law38_WideThird_r3_T := by kernel_rfl
theorem law38_WideThird_r3_b : Go.Proofs.YtkgemkadebgeoaaW.PrintLast.waitsOk law38_WideThird_r3_T.2 law38_WideThird_r3_B = true := by kernel_rfl
set_option maxRecDepth 100000 in
set_option maxHeartbeats 1000000 in
theorem law38_WideThird {l : List Arc} (x y z : Int) (hll : l.length ≤ 9223372036854775807) : Triple Try.prog 8 [.sl 3 (l.map arcC), .agg [.int x, .int y, .int z]] [] (Is (.v (.bool true)) []) := by
  refine triple_of Try.func8 rfl (by kernel_rfl) rfl (by simp) ?_
  refine aSeq ?_
  refine aReg ?_
  refine sq ?_
  refine qBox rfl rfl (by decide) rfl rfl (fun b3 => ?_)
  refine sp pMa ?_
  refine oNil ?_
  refine aSeq ?_
  refine aSeq ?_
  refine aReg ?_
  refine sp pM ?_
  refine sp (by first | exact pLm sl_68 | exact pLs sl_68) ?_
  refine sp pB ?_
  refine sp pM ?_
  refine oSplitDec 13 rfl (fun c13 => ?_) (fun c13 => ?_)
  · skip
    refine gf ?_
    refine gf ?_
    refine gf ?_
    refine sp pK ?_
    refine sp pM ?_
    refine gf ?_
    refine gf ?_
    refine gf ?_
    refine sp pK ?_
    refine sp pM ?_
    refine gf ?_
    refine gf ?_
    refine gf ?_
    refine sp pK ?_
    refine sp pM ?_
    refine gf ?_
    refine gf ?_
    refine gf ?_
    refine sp pK ?_
    refine sp pM ?_
    refine gf ?_
    refine gf ?_
    refine gf ?_
    refine sp pK ?_
    refine sp pM ?_
    refine gf ?_
    refine gf ?_
    refine gf ?_
    refine sp pK ?_
    refine sp pM ?_
    refine gf ?_
    refine gf ?_
    refine gf ?_
    refine sp pK ?_
    refine sp pM ?_
    refine gf ?_
    refine gf ?_
    refine gf ?_
    refine gf ?_
    refine gf ?_
    refine sp pK ?_
    refine oNil ?_
    refine aCondT rfl ?_
    refine aSeq ?_
    refine aReg ?_
    refine sq ?_
    refine cv rfl rfl rfl (lents_refl _) law38_awake ?_
    refine sp pMa ?_
    refine oNil ?_
    refine aRet ?_
    refine finIs rfl ?_
    rfl
  · skip
    refine gp pM ?_
    refine ga ?_
    refine (cv rfl rfl rfl (lents_refl _) ref24_May ?_).op
    refine gp pNo ?_
    refine sp pK ?_
    refine sp pM ?_
    refine oSplitNot 18 rfl (fun c18 => ?_) (fun c18 => ?_)
    · skip
      refine gf ?_
      refine gf ?_
      refine gf ?_
      refine sp pK ?_
      refine sp pM ?_
      refine gf ?_
      refine gf ?_
      refine gf ?_
      refine sp pK ?_
      refine sp pM ?_
      refine gf ?_
      refine gf ?_
      refine gf ?_
      refine sp pK ?_
      refine sp pM ?_
      refine gf ?_
      refine gf ?_
      refine gf ?_
      refine sp pK ?_
      refine sp pM ?_
      refine gf ?_
      refine gf ?_
      refine gf ?_
      refine sp pK ?_
      refine sp pM ?_
      refine gf ?_
      refine gf ?_
      refine gf ?_
      refine sp pK ?_
      refine sp pM ?_
      refine gf ?_
      refine gf ?_
      refine gf ?_
      refine gf ?_
      refine gf ?_
      refine sp pK ?_
      refine oNil ?_
      refine aCondT rfl ?_
      refine aSeq ?_
      refine aReg ?_
      refine sq ?_
      refine cv rfl rfl rfl (lents_refl _) law38_awake ?_
      refine sp pMa ?_
      refine oNil ?_
      refine aRet ?_
      refine finIs rfl ?_
      rfl
    · skip
      refine gp (pIa ar_69) ?_
      refine gr (by first | exact rAr ty_3 | exact rArL ty_3 | exact rArR ty_3 (by first | rfl | exact arrF_len one_len) | exact rB1 ty_3) ?_
      refine gp pB ?_
      refine sp pK ?_
      refine sp pM ?_
      refine oSplitDec 23 rfl (fun c23 => ?_) (fun c23 => ?_)
      · skip
        refine gf ?_
        refine gf ?_
        refine gf ?_
        refine sp pK ?_
        refine sp pM ?_
        refine gf ?_
        refine gf ?_
        refine gf ?_
        refine sp pK ?_
        refine sp pM ?_
        refine gf ?_
        refine gf ?_
        refine gf ?_
        refine sp pK ?_
        refine sp pM ?_
        refine gf ?_
        refine gf ?_
        refine gf ?_
        refine sp pK ?_
        refine sp pM ?_
        refine gf ?_
        refine gf ?_
        refine gf ?_
        refine sp pK ?_
        refine sp pM ?_
        refine gf ?_
        refine gf ?_
        refine gf ?_
        refine gf ?_
        refine gf ?_
        refine sp pK ?_
        refine oNil ?_
        refine aCondT rfl ?_
        refine aSeq ?_
        refine aReg ?_
        refine sq ?_
        refine cv rfl rfl rfl (lents_refl _) law38_awake ?_
        refine sp pMa ?_
        refine oNil ?_
        refine aRet ?_
        refine finIs rfl ?_
        rfl
      · skip
        refine gp (pIa ar_69) ?_
        refine gr (by first | exact rAr ty_3 | exact rArL ty_3 | exact rArR ty_3 (by first | rfl | exact arrF_len one_len) | exact rB1 ty_3) ?_
        refine gp pB ?_
        refine sp pK ?_
        refine sp pM ?_
        refine oSplitDec 28 rfl (fun c28 => ?_) (fun c28 => ?_)
        · skip
          refine gf ?_
          refine gf ?_
          refine gf ?_
          refine sp pK ?_
          refine sp pM ?_
          refine gf ?_
          refine gf ?_
          refine gf ?_
          refine sp pK ?_
          refine sp pM ?_
          refine gf ?_
          refine gf ?_
          refine gf ?_
          refine sp pK ?_
          refine sp pM ?_
          refine gf ?_
          refine gf ?_
          refine gf ?_
          refine sp pK ?_
          refine sp pM ?_
          refine gf ?_
          refine gf ?_
          refine gf ?_
          refine gf ?_
          refine gf ?_
          refine sp pK ?_
          refine oNil ?_
          refine aCondT rfl ?_
          refine aSeq ?_
          refine aReg ?_
          refine sq ?_
          refine cv rfl rfl rfl (lents_refl _) law38_awake ?_
          refine sp pMa ?_
          refine oNil ?_
          refine aRet ?_
          refine finIs rfl ?_
          rfl
        · skip
          refine gp (pIa ar_69) ?_
          refine gr (by first | exact rAr ty_3 | exact rArL ty_3 | exact rArR ty_3 (by first | rfl | exact arrF_len one_len) | exact rB1 ty_3) ?_
          refine gp pB ?_
          refine sp pK ?_
          refine sp pM ?_
          refine oSplitDec 33 rfl (fun c33 => ?_) (fun c33 => ?_)
          · skip
            refine gf ?_
            refine gf ?_
            refine gf ?_
            refine sp pK ?_
            refine sp pM ?_
            refine gf ?_
            refine gf ?_
            refine gf ?_
            refine sp pK ?_
            refine sp pM ?_
            refine gf ?_
            refine gf ?_
            refine gf ?_
            refine sp pK ?_
            refine sp pM ?_
            refine gf ?_
            refine gf ?_
            refine gf ?_
            refine gf ?_
            refine gf ?_
            refine sp pK ?_
            refine oNil ?_
            refine aCondT rfl ?_
            refine aSeq ?_
            refine aReg ?_
            refine sq ?_
            refine cv rfl rfl rfl (lents_refl _) law38_awake ?_
            refine sp pMa ?_
            refine oNil ?_
            refine aRet ?_
            refine finIs rfl ?_
            rfl
          · skip
            refine gp (pIa ar_69) ?_
            refine gr (by first | exact rAr ty_3 | exact rArL ty_3 | exact rArR ty_3 (by first | rfl | exact arrF_len one_len) | exact rB1 ty_3) ?_
            refine gp pB ?_
            refine sp pK ?_
            refine sp pM ?_
            refine oSplitDec 38 rfl (fun c38 => ?_) (fun c38 => ?_)
            · skip
              refine gf ?_
              refine gf ?_
              refine gf ?_
              refine sp pK ?_
              refine sp pM ?_
              refine gf ?_
              refine gf ?_
              refine gf ?_
              refine sp pK ?_
              refine sp pM ?_
              refine gf ?_
              refine gf ?_
              refine gf ?_
              refine gf ?_
              refine gf ?_
              refine sp pK ?_
              refine oNil ?_
              refine aCondT rfl ?_
              refine aSeq ?_
              refine aReg ?_
              refine sq ?_
              refine cv rfl rfl rfl (lents_refl _) law38_awake ?_
              refine sp pMa ?_
              refine oNil ?_
              refine aRet ?_
              refine finIs rfl ?_
              rfl
            · skip
              refine gp (pIa ar_69) ?_
              refine gr (by first | exact rAr ty_3 | exact rArL ty_3 | exact rArR ty_3 (by first | rfl | exact arrF_len one_len) | exact rB1 ty_3) ?_
              refine gp pB ?_
              refine sp pK ?_
              refine sp pM ?_
              refine oSplitDec 43 rfl (fun c43 => ?_) (fun c43 => ?_)
              · skip
                refine gf ?_
                refine gf ?_
                refine gf ?_
                refine sp pK ?_
                refine sp pM ?_
                refine gf ?_
                refine gf ?_
                refine gf ?_
                refine gf ?_
                refine gf ?_
                refine sp pK ?_
                refine oNil ?_
                refine aCondT rfl ?_
                refine aSeq ?_
                refine aReg ?_
                refine sq ?_
                refine cv rfl rfl rfl (lents_refl _) law38_awake ?_
                refine sp pMa ?_
                refine oNil ?_
                refine aRet ?_
                refine finIs rfl ?_
                rfl
              · skip
                refine gp (pIa ar_69) ?_
                refine gr (by first | exact rAr ty_3 | exact rArL ty_3 | exact rArR ty_3 (by first | rfl | exact arrF_len one_len) | exact rB1 ty_3) ?_
                refine gp pB ?_
                refine sp pK ?_
                refine sp pM ?_
                refine oSplitDec 48 rfl (fun c48 => ?_) (fun c48 => ?_)
                · skip
                  refine gf ?_
                  refine gf ?_
                  refine gf ?_
                  refine gf ?_
                  refine gf ?_
                  refine sp pK ?_
                  refine oNil ?_
                  refine aCondT rfl ?_
                  refine aSeq ?_
                  refine aReg ?_
                  refine sq ?_
                  refine cv rfl rfl rfl (lents_refl _) law38_awake ?_
                  refine sp pMa ?_
                  refine oNil ?_
                  refine aRet ?_
                  refine finIs rfl ?_
                  rfl
                · skip
                  refine gp (pIa ar_69) ?_
                  refine gr (by first | exact rAr ty_3 | exact rArL ty_3 | exact rArR ty_3 (by first | rfl | exact arrF_len one_len) | exact rB1 ty_3) ?_
                  refine gp (pIa ar_69) ?_
                  refine gr (by first | exact rAr ty_3 | exact rArL ty_3 | exact rArR ty_3 (by first | rfl | exact arrF_len one_len) | exact rB1 ty_3) ?_
                  refine gp pB ?_
                  refine sp pK ?_
                  refine oNil ?_
                  refine aCondEq rfl (fun c54 => ?_) (fun c54 => ?_)
                  · skip
                    refine aSeq ?_
                    refine aReg ?_
                    refine sq ?_
                    refine cv rfl rfl rfl (lents_refl _) law38_awake ?_
                    refine sp pMa ?_
                    refine oNil ?_
                    refine aRet ?_
                    refine finIs rfl ?_
                    rfl
                  · skip
                    refine aSkip ?_
                    refine aSeq ?_
                    have hok : arcsB none l = true := by simp_all
                    have hl := arcs_ok hok
                    refine aDrawT law38_WideThird_r3_t law38_WideThird_r3_b [] 21 #[false, false, false, false, false, false, false, false, false, false, false, false, false, false, false, false, false, false, false, false, false] (by kernel_rfl) rfl rfl (fun HT => ?_)
                    refine dp HT 0 rfl pM ?_
                    refine dp HT 1 rfl (pIa ar_69) ?_
                    refine dr HT 2 rfl (by first | exact rAr ty_3 | exact rArL ty_3 | exact rArR ty_3 (by first | rfl | exact arrF_len one_len) | exact rB1 ty_3) ?_
                    refine dp HT 3 rfl (pIa ar_69) ?_
                    refine dr HT 4 rfl (by first | exact rAr ty_3 | exact rArL ty_3 | exact rArR ty_3 (by first | rfl | exact arrF_len one_len) | exact rB1 ty_3) ?_
                    refine dp HT 6 rfl pM ?_
                    refine dp HT 7 rfl (pIa ar_69) ?_
                    refine dr HT 8 rfl (by first | exact rAr ty_3 | exact rArL ty_3 | exact rArR ty_3 (by first | rfl | exact arrF_len one_len) | exact rB1 ty_3) ?_
                    refine dp HT 9 rfl (pIa ar_69) ?_
                    refine dr HT 10 rfl (by first | exact rAr ty_3 | exact rArL ty_3 | exact rArR ty_3 (by first | rfl | exact arrF_len one_len) | exact rB1 ty_3) ?_
                    refine dp HT 12 rfl pM ?_
                    refine dp HT 13 rfl (pIa ar_69) ?_
                    refine dr HT 14 rfl (by first | exact rAr ty_3 | exact rArL ty_3 | exact rArR ty_3 (by first | rfl | exact arrF_len one_len) | exact rB1 ty_3) ?_
                    refine dp HT 15 rfl (pIa ar_69) ?_
                    refine dr HT 16 rfl (by first | exact rAr ty_3 | exact rArL ty_3 | exact rArR ty_3 (by first | rfl | exact arrF_len one_len) | exact rB1 ty_3) ?_
                    refine dGo ?_
                    refine e1 HT 5 rfl ?_
                    refine cv rfl rfl rfl (lents_refl _) (wide_Between (l := l) (r := x) (v := y) (by omega) hok (by omega) (by omega)) ?_
                    rw [show (if y = x then 0 else wF l x y) = wB l x y from rfl]
                    refine e1 HT 11 rfl ?_
                    refine cv rfl rfl rfl (lents_refl _) (wide_Between (l := l) (r := y) (v := z) (by omega) hok (by omega) (by omega)) ?_
                    rw [show (if z = y then 0 else wF l y z) = wB l y z from rfl]
                    refine e1 HT 17 rfl ?_
                    refine cv rfl rfl rfl (lents_refl _) (wide_Between (l := l) (r := x) (v := z) (by omega) hok (by omega) (by omega)) ?_
                    rw [show (if z = x then 0 else wF l x z) = wB l x z from rfl]
                    refine ef HT 18 rfl pMa ?_
                    refine ef HT 19 rfl pMa ?_
                    refine ef HT 20 rfl pMa ?_
                    refine eE HT ?_
                    clear HT
                    refine aSeq ?_
                    refine aSeq ?_
                    have hxz : x ≠ z := by simp_all
                    have hr1 := wB_range hl x y
                    have hr2 := wB_range hl y z
                    have hr3 := wB_range hl x z
                    refine aReg ?_
                    refine sp pM ?_
                    refine sp pB ?_
                    refine sp pM ?_
                    refine oSplitDec 76 rfl (fun c76 => ?_) (fun c76 => ?_)
                    · skip
                      refine gp pM ?_
                      refine gp pB ?_
                      refine sp pK ?_
                      refine sp pM ?_
                      refine oSplitDec 80 rfl (fun c80 => ?_) (fun c80 => ?_)
                      · skip
                        refine gp pM ?_
                        refine gp pM ?_
                        refine gp pB ?_
                        refine sp pK ?_
                        refine sp pM ?_
                        refine oSplitDec 85 rfl (fun c85 => ?_) (fun c85 => ?_)
                        · skip
                          refine gp pM ?_
                          refine gp pM ?_
                          refine gp pB ?_
                          refine sp pK ?_
                          refine oNil ?_
                          refine aCondDec rfl (fun c89 => ?_) (fun c89 => ?_)
                          · skip
                            refine aSeq ?_
                            refine aReg ?_
                            refine sp pMa ?_
                            refine oNil ?_
                            refine aRet ?_
                            exfalso
                            have := wide_third hl (x := x) (y := y) (z := z) (by omega) (by omega) (by omega) (by omega) hxz (by omega) (by omega)
                            omega
                          · skip
                            refine aSkip ?_
                            refine aSeq ?_
                            refine aReg ?_
                            refine sp pM ?_
                            refine sp (pIa ar_69) ?_
                            refine sr (by first | exact rAr ty_3 | exact rArL ty_3 | exact rArR ty_3 (by first | rfl | exact arrF_len one_len) | exact rB1 ty_3) ?_
                            refine sp pM ?_
                            refine sq ?_
                            refine ci rfl rfl rfl (ref38_Reached (l := l) (r := x) (w := wB l x z) (by omega) hl) ?_
                            refine sq ?_
                            refine qAlloc rfl rfl (by decide) ze_65 rfl (fun b8 => ?_)
                            refine sa ?_
                            refine oStW rfl rfl rfl rfl (by repeat constructor) ty_65 ?_
                            refine oNil ?_
                            refine aSeq ?_
                            refine aReg ?_
                            refine sp pM ?_
                            refine sp (pIa ar_69) ?_
                            refine sr (by first | exact rAr ty_3 | exact rArL ty_3 | exact rArR ty_3 (by first | rfl | exact arrF_len one_len) | exact rB1 ty_3) ?_
                            refine sp pM ?_
                            refine sp pAd ?_
                            refine sq ?_
                            refine ci rfl rfl rfl (ref38_Reached (l := l) (r := x) (w := wB l x z + 1) (by omega) hl) ?_
                            refine sq ?_
                            refine qAlloc rfl rfl (by decide) ze_65 rfl (fun b9 => ?_)
                            refine sa ?_
                            refine oStW rfl rfl rfl rfl (by repeat constructor) ty_65 ?_
                            refine oNil ?_
                            refine aSeq ?_
                            refine aReg ?_
                            refine sp pM ?_
                            refine sp pB ?_
                            refine sp pM ?_
                            refine oSplitEq 103 rfl (fun c103 => ?_) (fun c103 => ?_)
                            · skip
                              refine gf ?_
                              refine gf ?_
                              refine gf ?_
                              refine gf ?_
                              refine sp pK ?_
                              refine sp pM ?_
                              refine gp (pIa ar_69) ?_
                              refine gr (by first | exact rAr ty_3 | exact rArL ty_3 | exact rArR ty_3 (by first | rfl | exact arrF_len one_len) | exact rB1 ty_3) ?_
                              refine gp (pIa ar_65) ?_
                              refine gr (rBl (by first | exact rAr ty_4 | exact rArL ty_4 | exact rArR ty_4 (by first | rfl | exact arrF_len one_len) | exact rB1 ty_4) (show _ = false from wide_more hl (by omega) (by omega) hxz)) ?_
                              refine gp pNo ?_
                              refine sp pK ?_
                              refine sp pM ?_
                              refine ga ?_
                              refine (cv rfl rfl rfl (lents_refl _) law38_awake ?_).op
                              refine sp pK ?_
                              refine sp pMa ?_
                              refine oNil ?_
                              refine aRet ?_
                              refine finIs rfl ?_
                              rfl
                            · skip
                              refine gp (pIa ar_69) ?_
                              refine gr (by first | exact rAr ty_3 | exact rArL ty_3 | exact rArR ty_3 (by first | rfl | exact arrF_len one_len) | exact rB1 ty_3) ?_
                              refine gp (pIa ar_65) ?_
                              refine gr (rBl (by first | exact rAr ty_4 | exact rArL ty_4 | exact rArR ty_4 (by first | rfl | exact arrF_len one_len) | exact rB1 ty_4) (show _ = true from wide_in hl (by omega) (by omega) hxz (by assumption))) ?_
                              refine sp pK ?_
                              refine sp pM ?_
                              refine gp (pIa ar_69) ?_
                              refine gr (by first | exact rAr ty_3 | exact rArL ty_3 | exact rArR ty_3 (by first | rfl | exact arrF_len one_len) | exact rB1 ty_3) ?_
                              refine gp (pIa ar_65) ?_
                              refine gr (rBl (by first | exact rAr ty_4 | exact rArL ty_4 | exact rArR ty_4 (by first | rfl | exact arrF_len one_len) | exact rB1 ty_4) (show _ = false from wide_more hl (by omega) (by omega) hxz)) ?_
                              refine gp pNo ?_
                              refine sp pK ?_
                              refine sp pM ?_
                              refine ga ?_
                              refine (cv rfl rfl rfl (lents_refl _) law38_awake ?_).op
                              refine sp pK ?_
                              refine sp pMa ?_
                              refine oNil ?_
                              refine aRet ?_
                              refine finIs rfl ?_
                              rfl
                        · skip
                          refine gf ?_
                          refine gf ?_
                          refine gf ?_
                          refine sp pK ?_
                          refine oNil ?_
                          refine aCondF rfl ?_
                          refine aSkip ?_
                          refine aSeq ?_
                          refine aReg ?_
                          refine sp pM ?_
                          refine sp (pIa ar_69) ?_
                          refine sr (by first | exact rAr ty_3 | exact rArL ty_3 | exact rArR ty_3 (by first | rfl | exact arrF_len one_len) | exact rB1 ty_3) ?_
                          refine sp pM ?_
                          refine sq ?_
                          refine ci rfl rfl rfl (ref38_Reached (l := l) (r := x) (w := wB l x z) (by omega) hl) ?_
                          refine sq ?_
                          refine qAlloc rfl rfl (by decide) ze_65 rfl (fun b8 => ?_)
                          refine sa ?_
                          refine oStW rfl rfl rfl rfl (by repeat constructor) ty_65 ?_
                          refine oNil ?_
                          refine aSeq ?_
                          refine aReg ?_
                          refine sp pM ?_
                          refine sp (pIa ar_69) ?_
                          refine sr (by first | exact rAr ty_3 | exact rArL ty_3 | exact rArR ty_3 (by first | rfl | exact arrF_len one_len) | exact rB1 ty_3) ?_
                          refine sp pM ?_
                          refine sp pAd ?_
                          refine sq ?_
                          refine ci rfl rfl rfl (ref38_Reached (l := l) (r := x) (w := wB l x z + 1) (by omega) hl) ?_
                          refine sq ?_
                          refine qAlloc rfl rfl (by decide) ze_65 rfl (fun b9 => ?_)
                          refine sa ?_
                          refine oStW rfl rfl rfl rfl (by repeat constructor) ty_65 ?_
                          refine oNil ?_
                          refine aSeq ?_
                          refine aReg ?_
                          refine sp pM ?_
                          refine sp pB ?_
                          refine sp pM ?_
                          refine oSplitEq 103 rfl (fun c103 => ?_) (fun c103 => ?_)
                          · skip
                            refine gf ?_
                            refine gf ?_
                            refine gf ?_
                            refine gf ?_
                            refine sp pK ?_
                            refine sp pM ?_
                            refine gp (pIa ar_69) ?_
                            refine gr (by first | exact rAr ty_3 | exact rArL ty_3 | exact rArR ty_3 (by first | rfl | exact arrF_len one_len) | exact rB1 ty_3) ?_
                            refine gp (pIa ar_65) ?_
                            refine gr (rBl (by first | exact rAr ty_4 | exact rArL ty_4 | exact rArR ty_4 (by first | rfl | exact arrF_len one_len) | exact rB1 ty_4) (show _ = false from wide_more hl (by omega) (by omega) hxz)) ?_
                            refine gp pNo ?_
                            refine sp pK ?_
                            refine sp pM ?_
                            refine ga ?_
                            refine (cv rfl rfl rfl (lents_refl _) law38_awake ?_).op
                            refine sp pK ?_
                            refine sp pMa ?_
                            refine oNil ?_
                            refine aRet ?_
                            refine finIs rfl ?_
                            rfl
                          · skip
                            refine gp (pIa ar_69) ?_
                            refine gr (by first | exact rAr ty_3 | exact rArL ty_3 | exact rArR ty_3 (by first | rfl | exact arrF_len one_len) | exact rB1 ty_3) ?_
                            refine gp (pIa ar_65) ?_
                            refine gr (rBl (by first | exact rAr ty_4 | exact rArL ty_4 | exact rArR ty_4 (by first | rfl | exact arrF_len one_len) | exact rB1 ty_4) (show _ = true from wide_in hl (by omega) (by omega) hxz (by assumption))) ?_
                            refine sp pK ?_
                            refine sp pM ?_
                            refine gp (pIa ar_69) ?_
                            refine gr (by first | exact rAr ty_3 | exact rArL ty_3 | exact rArR ty_3 (by first | rfl | exact arrF_len one_len) | exact rB1 ty_3) ?_
                            refine gp (pIa ar_65) ?_
                            refine gr (rBl (by first | exact rAr ty_4 | exact rArL ty_4 | exact rArR ty_4 (by first | rfl | exact arrF_len one_len) | exact rB1 ty_4) (show _ = false from wide_more hl (by omega) (by omega) hxz)) ?_
                            refine gp pNo ?_
                            refine sp pK ?_
                            refine sp pM ?_
                            refine ga ?_
                            refine (cv rfl rfl rfl (lents_refl _) law38_awake ?_).op
                            refine sp pK ?_
                            refine sp pMa ?_
                            refine oNil ?_
                            refine aRet ?_
                            refine finIs rfl ?_
                            rfl
                      · skip
                        refine gf ?_
                        refine gf ?_
                        refine gf ?_
                        refine sp pK ?_
                        refine sp pM ?_
                        refine gf ?_
                        refine gf ?_
                        refine gf ?_
                        refine sp pK ?_
                        refine oNil ?_
                        refine aCondF rfl ?_
                        refine aSkip ?_
                        refine aSeq ?_
                        refine aReg ?_
                        refine sp pM ?_
                        refine sp (pIa ar_69) ?_
                        refine sr (by first | exact rAr ty_3 | exact rArL ty_3 | exact rArR ty_3 (by first | rfl | exact arrF_len one_len) | exact rB1 ty_3) ?_
                        refine sp pM ?_
                        refine sq ?_
                        refine ci rfl rfl rfl (ref38_Reached (l := l) (r := x) (w := wB l x z) (by omega) hl) ?_
                        refine sq ?_
                        refine qAlloc rfl rfl (by decide) ze_65 rfl (fun b8 => ?_)
                        refine sa ?_
                        refine oStW rfl rfl rfl rfl (by repeat constructor) ty_65 ?_
                        refine oNil ?_
                        refine aSeq ?_
                        refine aReg ?_
                        refine sp pM ?_
                        refine sp (pIa ar_69) ?_
                        refine sr (by first | exact rAr ty_3 | exact rArL ty_3 | exact rArR ty_3 (by first | rfl | exact arrF_len one_len) | exact rB1 ty_3) ?_
                        refine sp pM ?_
                        refine sp pAd ?_
                        refine sq ?_
                        refine ci rfl rfl rfl (ref38_Reached (l := l) (r := x) (w := wB l x z + 1) (by omega) hl) ?_
                        refine sq ?_
                        refine qAlloc rfl rfl (by decide) ze_65 rfl (fun b9 => ?_)
                        refine sa ?_
                        refine oStW rfl rfl rfl rfl (by repeat constructor) ty_65 ?_
                        refine oNil ?_
                        refine aSeq ?_
                        refine aReg ?_
                        refine sp pM ?_
                        refine sp pB ?_
                        refine sp pM ?_
                        refine oSplitEq 103 rfl (fun c103 => ?_) (fun c103 => ?_)
                        · skip
                          refine gf ?_
                          refine gf ?_
                          refine gf ?_
                          refine gf ?_
                          refine sp pK ?_
                          refine sp pM ?_
                          refine gp (pIa ar_69) ?_
                          refine gr (by first | exact rAr ty_3 | exact rArL ty_3 | exact rArR ty_3 (by first | rfl | exact arrF_len one_len) | exact rB1 ty_3) ?_
                          refine gp (pIa ar_65) ?_
                          refine gr (rBl (by first | exact rAr ty_4 | exact rArL ty_4 | exact rArR ty_4 (by first | rfl | exact arrF_len one_len) | exact rB1 ty_4) (show _ = false from wide_more hl (by omega) (by omega) hxz)) ?_
                          refine gp pNo ?_
                          refine sp pK ?_
                          refine sp pM ?_
                          refine ga ?_
                          refine (cv rfl rfl rfl (lents_refl _) law38_awake ?_).op
                          refine sp pK ?_
                          refine sp pMa ?_
                          refine oNil ?_
                          refine aRet ?_
                          refine finIs rfl ?_
                          rfl
                        · skip
                          refine gp (pIa ar_69) ?_
                          refine gr (by first | exact rAr ty_3 | exact rArL ty_3 | exact rArR ty_3 (by first | rfl | exact arrF_len one_len) | exact rB1 ty_3) ?_
                          refine gp (pIa ar_65) ?_
                          refine gr (rBl (by first | exact rAr ty_4 | exact rArL ty_4 | exact rArR ty_4 (by first | rfl | exact arrF_len one_len) | exact rB1 ty_4) (show _ = true from wide_in hl (by omega) (by omega) hxz (by assumption))) ?_
                          refine sp pK ?_
                          refine sp pM ?_
                          refine gp (pIa ar_69) ?_
                          refine gr (by first | exact rAr ty_3 | exact rArL ty_3 | exact rArR ty_3 (by first | rfl | exact arrF_len one_len) | exact rB1 ty_3) ?_
                          refine gp (pIa ar_65) ?_
                          refine gr (rBl (by first | exact rAr ty_4 | exact rArL ty_4 | exact rArR ty_4 (by first | rfl | exact arrF_len one_len) | exact rB1 ty_4) (show _ = false from wide_more hl (by omega) (by omega) hxz)) ?_
                          refine gp pNo ?_
                          refine sp pK ?_
                          refine sp pM ?_
                          refine ga ?_
                          refine (cv rfl rfl rfl (lents_refl _) law38_awake ?_).op
                          refine sp pK ?_
                          refine sp pMa ?_
                          refine oNil ?_
                          refine aRet ?_
                          refine finIs rfl ?_
                          rfl
                    · skip
                      refine gf ?_
                      refine gf ?_
                      refine sp pK ?_
                      refine sp pM ?_
                      refine gf ?_
                      refine gf ?_
                      refine gf ?_
                      refine sp pK ?_
                      refine sp pM ?_
                      refine gf ?_
                      refine gf ?_
                      refine gf ?_
                      refine sp pK ?_
                      refine oNil ?_
                      refine aCondF rfl ?_
                      refine aSkip ?_
                      refine aSeq ?_
                      refine aReg ?_
                      refine sp pM ?_
                      refine sp (pIa ar_69) ?_
                      refine sr (by first | exact rAr ty_3 | exact rArL ty_3 | exact rArR ty_3 (by first | rfl | exact arrF_len one_len) | exact rB1 ty_3) ?_
                      refine sp pM ?_
                      refine sq ?_
                      refine ci rfl rfl rfl (ref38_Reached (l := l) (r := x) (w := wB l x z) (by omega) hl) ?_
                      refine sq ?_
                      refine qAlloc rfl rfl (by decide) ze_65 rfl (fun b8 => ?_)
                      refine sa ?_
                      refine oStW rfl rfl rfl rfl (by repeat constructor) ty_65 ?_
                      refine oNil ?_
                      refine aSeq ?_
                      refine aReg ?_
                      refine sp pM ?_
                      refine sp (pIa ar_69) ?_
                      refine sr (by first | exact rAr ty_3 | exact rArL ty_3 | exact rArR ty_3 (by first | rfl | exact arrF_len one_len) | exact rB1 ty_3) ?_
                      refine sp pM ?_
                      refine sp pAd ?_
                      refine sq ?_
                      refine ci rfl rfl rfl (ref38_Reached (l := l) (r := x) (w := wB l x z + 1) (by omega) hl) ?_
                      refine sq ?_
                      refine qAlloc rfl rfl (by decide) ze_65 rfl (fun b9 => ?_)
                      refine sa ?_
                      refine oStW rfl rfl rfl rfl (by repeat constructor) ty_65 ?_
                      refine oNil ?_
                      refine aSeq ?_
                      refine aReg ?_
                      refine sp pM ?_
                      refine sp pB ?_
                      refine sp pM ?_
                      refine oSplitEq 103 rfl (fun c103 => ?_) (fun c103 => ?_)
                      · skip
                        refine gf ?_
                        refine gf ?_
                        refine gf ?_
                        refine gf ?_
                        refine sp pK ?_
                        refine sp pM ?_
                        refine gp (pIa ar_69) ?_
                        refine gr (by first | exact rAr ty_3 | exact rArL ty_3 | exact rArR ty_3 (by first | rfl | exact arrF_len one_len) | exact rB1 ty_3) ?_
                        refine gp (pIa ar_65) ?_
                        refine gr (rBl (by first | exact rAr ty_4 | exact rArL ty_4 | exact rArR ty_4 (by first | rfl | exact arrF_len one_len) | exact rB1 ty_4) (show _ = false from wide_more hl (by omega) (by omega) hxz)) ?_
                        refine gp pNo ?_
                        refine sp pK ?_
                        refine sp pM ?_
                        refine ga ?_
                        refine (cv rfl rfl rfl (lents_refl _) law38_awake ?_).op
                        refine sp pK ?_
                        refine sp pMa ?_
                        refine oNil ?_
                        refine aRet ?_
                        refine finIs rfl ?_
                        rfl
                      · skip
                        refine gp (pIa ar_69) ?_
                        refine gr (by first | exact rAr ty_3 | exact rArL ty_3 | exact rArR ty_3 (by first | rfl | exact arrF_len one_len) | exact rB1 ty_3) ?_
                        refine gp (pIa ar_65) ?_
                        refine gr (rBl (by first | exact rAr ty_4 | exact rArL ty_4 | exact rArR ty_4 (by first | rfl | exact arrF_len one_len) | exact rB1 ty_4) (show _ = true from wide_in hl (by omega) (by omega) hxz (by assumption))) ?_
                        refine sp pK ?_
                        refine sp pM ?_
                        refine gp (pIa ar_69) ?_
                        refine gr (by first | exact rAr ty_3 | exact rArL ty_3 | exact rArR ty_3 (by first | rfl | exact arrF_len one_len) | exact rB1 ty_3) ?_
                        refine gp (pIa ar_65) ?_
                        refine gr (rBl (by first | exact rAr ty_4 | exact rArL ty_4 | exact rArR ty_4 (by first | rfl | exact arrF_len one_len) | exact rB1 ty_4) (show _ = false from wide_more hl (by omega) (by omega) hxz)) ?_
                        refine gp pNo ?_
                        refine sp pK ?_
                        refine sp pM ?_
                        refine ga ?_
                        refine (cv rfl rfl rfl (lents_refl _) law38_awake ?_).op
                        refine sp pK ?_
                        refine sp pMa ?_
                        refine oNil ?_
                        refine aRet ?_
                        refine finIs rfl ?_
                        rfl

end A
end Go.Proofs.Ytkgemkadebgeoaa
