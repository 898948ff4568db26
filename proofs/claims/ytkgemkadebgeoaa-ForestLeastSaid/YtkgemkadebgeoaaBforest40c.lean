/- What functions of the program compute: forest40c -/
import Derived.Test.YtkgemkadebgeoaaBforest40b
import Derived.Test.YtkgemkadebgeoaaProg
import Derived.KernelRfl
set_option linter.unusedVariables false
set_option linter.unusedSimpArgs false
namespace Go.Proofs.Ytkgemkadebgeoaa
namespace A

theorem ar_139 : arrOf Try.prog 139 = some (65, 1) := by kernel_rfl
theorem ik_3 : intKindOf Try.prog 3 = some .i64 := by kernel_rfl
theorem ik_60 : intKindOf Try.prog 60 = some .u64 := by kernel_rfl
/- waymarkref40.May -/
def ref40_May_r7_T : Bool × List (List Nat × List Nat) := (true, [([], []), ([0], [0]), ([1], [1]), ([2], [2]), ([2], [2]), ([4, 2], [2, 4]), ([3, 5, 2], [2, 3, 5]), ([6, 2], [2, 6]), ([7, 2], [2, 7]), ([2], [2]), ([9, 2], [2, 9]), ([8, 10, 2], [2, 8, 10]), ([11, 2, 2], [2, 11]), ([12], [12]), ([12], [12]), ([14, 12], [12, 14]), ([13, 15, 12], [12, 13, 15]), ([16, 12], [12, 16]), ([17, 12], [12, 17]), ([12], [12]), ([19, 12], [12, 19]), ([18, 20, 12], [12, 18, 20]), ([21, 12, 12], [12, 21]), ([22], [22]), ([22], [22]), ([24, 22], [22, 24]), ([23, 25, 22], [22, 23, 25]), ([26, 22], [22, 26]), ([27, 22], [22, 27]), ([22], [22]), ([29, 22], [22, 29]), ([28, 30, 22], [22, 28, 30]), ([22, 31, 12], [12, 22, 31]), ([12, 32, 2], [2, 12, 32]), ([2, 33], [2, 33])])
def ref40_May_r7_B : List Nat := [0, 1, 3, 7, 7, 23, 63, 127, 255, 7, 519, 2047, 4095, 8191, 8191, 24575, 65535, 131071, 262143, 8191, 532479, 2097151, 4194303, 8388607, 8388607, 25165823, 67108863, 134217727, 268435455, 8388607, 545259519, 2147483647, 4294967295, 8589934591, 17179869183]
theorem ref40_May_r7_t : Go.Proofs.YtkgemkadebgeoaaW.PrintLast.rtab .any (Go.Proofs.YtkgemkadebgeoaaW.PrintLast.opsOf Try.f30 7) = ref40_May_r7_T := by kernel_rfl
theorem ref40_May_r7_b : Go.Proofs.YtkgemkadebgeoaaW.PrintLast.waitsOk ref40_May_r7_T.2 ref40_May_r7_B = true := by kernel_rfl
set_option maxRecDepth 100000 in
set_option maxHeartbeats 2000000 in
theorem ref40_May {l : List Edge} (hl : l.length ≤ 1000000 := by omega) : Triple Try.prog 30 [.sl 3 (l.map edgeC)] [] (Is (.v (.bool (edgesB none l))) []) := by
  refine triple_of Try.func30 rfl (by kernel_rfl) rfl (by simp) ?_
  refine aSeq ?_
  refine aReg ?_
  refine sp pMa ?_
  refine oNil ?_
  refine aSeq ?_
  refine aSeq ?_
  refine aReg ?_
  refine sp pMa ?_
  refine oNil ?_
  refine aBlock ?_
  refine loopF (α := Nat) (kept := [(0, _)]) (fun i => i ≤ l.length ∧ edgesB none l = edgesB (prevA l i) (l.drop i)) (fun i => [(3, .int i)]) (fun i => []) (fun i => l.length - i) 0 ?_ ⟨gInt rfl (by first | rfl | omega | simp), rfl, trivial⟩ (by repeat constructor) ?_
  · skip
    exact ⟨by omega, rfl⟩
  · rintro i ⟨hi, hv⟩
    refine aSeq ?_
    refine aSeq ?_
    refine aReg ?_
    refine sp pM ?_
    refine sp pM ?_
    refine sp (by first | exact pLm sl_56 | exact pLs sl_56) ?_
    refine sp pB ?_
    refine oNil ?_
    refine aCondDec rfl (fun c8 => ?_) (fun c8 => ?_)
    · skip
      refine aSkip ?_
      refine aSeq ?_
      refine aBlock ?_
      refine aSeq ?_
      refine aReg ?_
      refine sp pM ?_
      refine sp pM ?_
      first | refine sp (pIx es_56) ?_ | (refine obtSN 11 12 rfl rfl (by omega) (fun x13 hx13 => ?_); refine sp (pIs es_56 hx13) ?_) | (refine obtS 11 12 rfl rfl (by omega) (by omega) (fun x13 hx13 => ?_); refine sp (pIs es_56 hx13) ?_) | refine sp (pIo es_56) ?_
      refine sr (by first | exact rSW ty_64 rfl | exact rSA ty_64) ?_
      refine sq ?_
      refine qAlloc rfl rfl (by decide) ze_64 rfl (fun b4 => ?_)
      refine sa ?_
      refine oStW rfl rfl rfl rfl (by repeat constructor) ty_64 ?_
      refine oNil ?_
      refine aSeq ?_
      refine aSeq ?_
      refine aReg ?_
      refine sp (pFb fd_64_0) ?_
      refine sr (rB1 ty_3) ?_
      refine sp pB ?_
      refine sp pM ?_
      refine oSplitDec 18 rfl (fun c18 => ?_) (fun c18 => ?_)
      · skip
        refine gf ?_
        refine gf ?_
        refine gf ?_
        refine gf ?_
        refine gf ?_
        refine sp pK ?_
        refine sp pM ?_
        refine gf ?_
        refine gf ?_
        refine gf ?_
        refine sp pK ?_
        refine sp pM ?_
        refine gf ?_
        refine gf ?_
        refine gf ?_
        refine sp pK ?_
        refine sp pM ?_
        refine gf ?_
        refine gf ?_
        refine gf ?_
        refine sp pK ?_
        refine oNil ?_
        refine aCondT rfl ?_
        refine aSeq ?_
        refine aReg ?_
        refine sp pMa ?_
        refine oNil ?_
        refine aRet ?_
        refine finIs rfl ?_
        have hs := edges_step (p := prevA l i) hx13
        show AV.v (.bool false) = AV.v (.bool (edgesB none l))
        rw [hv, hs]
        by_cases h0 : i = 0 <;> simp_all [edgeB, ordE, prevA, orderE_lt, ltE]
        all_goals (intros; omega)
      · skip
        refine gp (pFb fd_64_0) ?_
        refine gr (rB1 ty_3) ?_
        refine gp (pFb fd_64_1) ?_
        refine gr (rB1 ty_3) ?_
        refine gp pB ?_
        refine sp pK ?_
        refine sp pM ?_
        refine oSplitDec 25 rfl (fun c25 => ?_) (fun c25 => ?_)
        · skip
          refine gf ?_
          refine gf ?_
          refine gf ?_
          refine sp pK ?_
          refine sp pM ?_
          refine gf ?_
          refine gf ?_
          refine gf ?_
          refine sp pK ?_
          refine sp pM ?_
          refine gf ?_
          refine gf ?_
          refine gf ?_
          refine sp pK ?_
          refine oNil ?_
          refine aCondT rfl ?_
          refine aSeq ?_
          refine aReg ?_
          refine sp pMa ?_
          refine oNil ?_
          refine aRet ?_
          refine finIs rfl ?_
          have hs := edges_step (p := prevA l i) hx13
          show AV.v (.bool false) = AV.v (.bool (edgesB none l))
          rw [hv, hs]
          by_cases h0 : i = 0 <;> simp_all [edgeB, ordE, prevA, orderE_lt, ltE]
          all_goals (intros; omega)
        · skip
          refine gp (pFb fd_64_1) ?_
          refine gr (rB1 ty_3) ?_
          refine gp pB ?_
          refine sp pK ?_
          refine sp pM ?_
          refine oSplitDec 30 rfl (fun c30 => ?_) (fun c30 => ?_)
          · skip
            refine gf ?_
            refine gf ?_
            refine gf ?_
            refine sp pK ?_
            refine sp pM ?_
            refine gf ?_
            refine gf ?_
            refine gf ?_
            refine sp pK ?_
            refine oNil ?_
            refine aCondT rfl ?_
            refine aSeq ?_
            refine aReg ?_
            refine sp pMa ?_
            refine oNil ?_
            refine aRet ?_
            refine finIs rfl ?_
            have hs := edges_step (p := prevA l i) hx13
            show AV.v (.bool false) = AV.v (.bool (edgesB none l))
            rw [hv, hs]
            by_cases h0 : i = 0 <;> simp_all [edgeB, ordE, prevA, orderE_lt, ltE]
            all_goals (intros; omega)
          · skip
            refine gp (pFb fd_64_2) ?_
            refine gr (rB1 ty_3) ?_
            refine gp pB ?_
            refine sp pK ?_
            refine sp pM ?_
            refine oSplitDec 35 rfl (fun c35 => ?_) (fun c35 => ?_)
            · skip
              refine gf ?_
              refine gf ?_
              refine gf ?_
              refine sp pK ?_
              refine oNil ?_
              refine aCondT rfl ?_
              refine aSeq ?_
              refine aReg ?_
              refine sp pMa ?_
              refine oNil ?_
              refine aRet ?_
              refine finIs rfl ?_
              have hs := edges_step (p := prevA l i) hx13
              show AV.v (.bool false) = AV.v (.bool (edgesB none l))
              rw [hv, hs]
              by_cases h0 : i = 0 <;> simp_all [edgeB, ordE, prevA, orderE_lt, ltE]
              all_goals (intros; omega)
            · skip
              refine gp (pFb fd_64_2) ?_
              refine gr (rB1 ty_3) ?_
              refine gp pB ?_
              refine sp pK ?_
              refine oNil ?_
              refine aCondDec rfl (fun c39 => ?_) (fun c39 => ?_)
              · skip
                refine aSeq ?_
                refine aReg ?_
                refine sp pMa ?_
                refine oNil ?_
                refine aRet ?_
                refine finIs rfl ?_
                have hs := edges_step (p := prevA l i) hx13
                show AV.v (.bool false) = AV.v (.bool (edgesB none l))
                rw [hv, hs]
                by_cases h0 : i = 0 <;> simp_all [edgeB, ordE, prevA, orderE_lt, ltE]
                all_goals (intros; omega)
              · skip
                refine aSkip ?_
                refine aSeq ?_
                have hprev : 0 < i → ∃ b, l[((i : Int) - 1).toNat]? = some b := fun h => ⟨_, List.getElem?_eq_getElem (by omega)⟩
                refine aDrawT ref40_May_r7_t ref40_May_r7_b [] 35 #[false, false, false, false, false, false, false, false, false, false, false, false, false, false, false, false, false, false, false, false, false, false, false, false, false, false, false, false, false, false, false, false, false, false, false] (by kernel_rfl) rfl rfl (fun HT => ?_)
                refine dp HT 0 rfl pM ?_
                refine dp HT 1 rfl pB ?_
                refine dp HT 2 rfl pM ?_
                refine dSplitDec 42 rfl (fun c42 => ?_) (fun c42 => ?_)
                · skip
                  refine dpG HT 3 rfl pM ?_
                  refine dpG HT 4 rfl pM ?_
                  refine dpG HT 5 rfl pSu ?_
                  obtain ⟨b, hb⟩ := hprev (by omega)
                  have hb' : l[i - 1]? = some b := by rw [← hb]; congr 1; omega
                  first | refine dpG HT 6 rfl (pIx es_56) ?_ | (refine obtDN 43 45 rfl rfl (by omega) (fun x46 hx46 => ?_); refine dpG HT 6 rfl (pIs es_56 hx46) ?_) | (refine obtD 43 45 rfl rfl (by omega) (by omega) (fun x46 hx46 => ?_); refine dpG HT 6 rfl (pIs es_56 hx46) ?_) | refine dpG HT 6 rfl (pIo es_56) ?_
                  refine dpG HT 7 rfl (pFs fd_64_0) ?_
                  refine drG HT 8 rfl (rS1 ty_3) ?_
                  refine dpG HT 9 rfl (pFb fd_64_0) ?_
                  refine drG HT 10 rfl (rB1 ty_3) ?_
                  refine dpG HT 11 rfl pB ?_
                  refine dpG HT 12 rfl pM ?_
                  refine dSplitDec 52 rfl (fun c52 => ?_) (fun c52 => ?_)
                  · skip
                    refine dS HT 13 rfl ?_
                    refine dS HT 14 rfl ?_
                    refine dS HT 15 rfl ?_
                    refine dS HT 16 rfl ?_
                    refine dS HT 17 rfl ?_
                    refine dS HT 18 rfl ?_
                    refine dS HT 19 rfl ?_
                    refine dS HT 20 rfl ?_
                    refine dS HT 21 rfl ?_
                    refine dS HT 22 rfl ?_
                    refine dS HT 23 rfl ?_
                    refine dS HT 24 rfl ?_
                    refine dS HT 25 rfl ?_
                    refine dS HT 26 rfl ?_
                    refine dS HT 27 rfl ?_
                    refine dS HT 28 rfl ?_
                    refine dS HT 29 rfl ?_
                    refine dS HT 30 rfl ?_
                    refine dS HT 31 rfl ?_
                    refine dS HT 32 rfl ?_
                    refine dpG HT 33 rfl pK ?_
                    refine dp HT 34 rfl pK ?_
                    refine dE HT ?_
                    clear HT
                    refine aCondT rfl ?_
                    refine aSeq ?_
                    refine aReg ?_
                    refine sp pMa ?_
                    refine oNil ?_
                    refine aRet ?_
                    refine finIs rfl ?_
                    have hs := edges_step (p := prevA l i) hx13
                    show AV.v (.bool false) = AV.v (.bool (edgesB none l))
                    rw [hv, hs]
                    by_cases h0 : i = 0 <;> simp_all [edgeB, ordE, prevA, orderE_lt, ltE]
                    all_goals (intros; omega)
                  · skip
                    refine dpG HT 13 rfl pM ?_
                    refine dpG HT 14 rfl pM ?_
                    refine dpG HT 15 rfl pSu ?_
                    first | refine dpG HT 16 rfl (pIx es_56) ?_ | (refine obtDN 53 55 rfl rfl (by omega) (fun x56 hx56 => ?_); refine dpG HT 16 rfl (pIs es_56 hx56) ?_) | (refine obtD 53 55 rfl rfl (by omega) (by omega) (fun x56 hx56 => ?_); refine dpG HT 16 rfl (pIs es_56 hx56) ?_) | refine dpG HT 16 rfl (pIo es_56) ?_
                    refine dpG HT 17 rfl (pFs fd_64_0) ?_
                    refine drG HT 18 rfl (rS1 ty_3) ?_
                    refine dpG HT 19 rfl (pFb fd_64_0) ?_
                    refine drG HT 20 rfl (rB1 ty_3) ?_
                    refine dpG HT 21 rfl pB ?_
                    refine dpG HT 22 rfl pM ?_
                    refine dSplitEq 62 rfl (fun c62 => ?_) (fun c62 => ?_)
                    · skip
                      refine dpG HT 23 rfl pM ?_
                      refine dpG HT 24 rfl pM ?_
                      refine dpG HT 25 rfl pSu ?_
                      first | refine dpG HT 26 rfl (pIx es_56) ?_ | (refine obtDN 63 65 rfl rfl (by omega) (fun x66 hx66 => ?_); refine dpG HT 26 rfl (pIs es_56 hx66) ?_) | (refine obtD 63 65 rfl rfl (by omega) (by omega) (fun x66 hx66 => ?_); refine dpG HT 26 rfl (pIs es_56 hx66) ?_) | refine dpG HT 26 rfl (pIo es_56) ?_
                      refine dpG HT 27 rfl (pFs fd_64_1) ?_
                      refine drG HT 28 rfl (rS1 ty_3) ?_
                      refine dpG HT 29 rfl (pFb fd_64_1) ?_
                      refine drG HT 30 rfl (rB1 ty_3) ?_
                      refine dpG HT 31 rfl pB ?_
                      refine dpG HT 32 rfl pK ?_
                      refine dpG HT 33 rfl pK ?_
                      refine dp HT 34 rfl pK ?_
                      refine dE HT ?_
                      clear HT
                      refine aCondDec rfl (fun c74 => ?_) (fun c74 => ?_)
                      · skip
                        refine aSeq ?_
                        refine aReg ?_
                        refine sp pMa ?_
                        refine oNil ?_
                        refine aRet ?_
                        refine finIs rfl ?_
                        have hs := edges_step (p := prevA l i) hx13
                        show AV.v (.bool false) = AV.v (.bool (edgesB none l))
                        rw [hv, hs]
                        by_cases h0 : i = 0 <;> simp_all [edgeB, ordE, prevA, orderE_lt, ltE]
                        all_goals (intros; omega)
                      · skip
                        refine aSkip ?_
                        refine aReg ?_
                        refine sp pM ?_
                        refine sp pAd ?_
                        refine sp pMa ?_
                        refine oNil ?_
                        refine ⟨i + 1, ?_, by (try dsimp only); omega, ⟨gInt rfl (by first | rfl | omega | simp), rfl, trivial⟩, _, (by repeat constructor)⟩
                        have hs := edges_step (p := prevA l i) hx13
                        refine ⟨by omega, ?_⟩
                        rw [hv, hs, prevA_succ hx13]
                        by_cases h0 : i = 0 <;> simp_all [edgeB, ordE, prevA, orderE_lt, ltE]
                        all_goals (intros; omega)
                    · skip
                      refine dS HT 23 rfl ?_
                      refine dS HT 24 rfl ?_
                      refine dS HT 25 rfl ?_
                      refine dS HT 26 rfl ?_
                      refine dS HT 27 rfl ?_
                      refine dS HT 28 rfl ?_
                      refine dS HT 29 rfl ?_
                      refine dS HT 30 rfl ?_
                      refine dS HT 31 rfl ?_
                      refine dpG HT 32 rfl pK ?_
                      refine dpG HT 33 rfl pK ?_
                      refine dp HT 34 rfl pK ?_
                      refine dE HT ?_
                      clear HT
                      refine aCondF rfl ?_
                      refine aSkip ?_
                      refine aReg ?_
                      refine sp pM ?_
                      refine sp pAd ?_
                      refine sp pMa ?_
                      refine oNil ?_
                      refine ⟨i + 1, ?_, by (try dsimp only); omega, ⟨gInt rfl (by first | rfl | omega | simp), rfl, trivial⟩, _, (by repeat constructor)⟩
                      have hs := edges_step (p := prevA l i) hx13
                      refine ⟨by omega, ?_⟩
                      rw [hv, hs, prevA_succ hx13]
                      by_cases h0 : i = 0 <;> simp_all [edgeB, ordE, prevA, orderE_lt, ltE]
                      all_goals (intros; omega)
                · skip
                  refine dS HT 3 rfl ?_
                  refine dS HT 4 rfl ?_
                  refine dS HT 5 rfl ?_
                  refine dS HT 6 rfl ?_
                  refine dS HT 7 rfl ?_
                  refine dS HT 8 rfl ?_
                  refine dS HT 9 rfl ?_
                  refine dS HT 10 rfl ?_
                  refine dS HT 11 rfl ?_
                  refine dS HT 12 rfl ?_
                  refine dS HT 13 rfl ?_
                  refine dS HT 14 rfl ?_
                  refine dS HT 15 rfl ?_
                  refine dS HT 16 rfl ?_
                  refine dS HT 17 rfl ?_
                  refine dS HT 18 rfl ?_
                  refine dS HT 19 rfl ?_
                  refine dS HT 20 rfl ?_
                  refine dS HT 21 rfl ?_
                  refine dS HT 22 rfl ?_
                  refine dS HT 23 rfl ?_
                  refine dS HT 24 rfl ?_
                  refine dS HT 25 rfl ?_
                  refine dS HT 26 rfl ?_
                  refine dS HT 27 rfl ?_
                  refine dS HT 28 rfl ?_
                  refine dS HT 29 rfl ?_
                  refine dS HT 30 rfl ?_
                  refine dS HT 31 rfl ?_
                  refine dS HT 32 rfl ?_
                  refine dS HT 33 rfl ?_
                  refine dp HT 34 rfl pK ?_
                  refine dE HT ?_
                  clear HT
                  refine aCondF rfl ?_
                  refine aSkip ?_
                  refine aReg ?_
                  refine sp pM ?_
                  refine sp pAd ?_
                  refine sp pMa ?_
                  refine oNil ?_
                  refine ⟨i + 1, ?_, by (try dsimp only); omega, ⟨gInt rfl (by first | rfl | omega | simp), rfl, trivial⟩, _, (by repeat constructor)⟩
                  have hs := edges_step (p := prevA l i) hx13
                  refine ⟨by omega, ?_⟩
                  rw [hv, hs, prevA_succ hx13]
                  by_cases h0 : i = 0 <;> simp_all [edgeB, ordE, prevA, orderE_lt, ltE]
                  all_goals (intros; omega)
    · skip
      refine aExit rfl ?_
      refine aSeq ?_
      refine aReg ?_
      refine sp pMa ?_
      refine oNil ?_
      refine aRet ?_
      refine finIs rfl ?_
      show AV.v (.bool true) = AV.v (.bool _)
      rw [hv, List.drop_of_length_le (by omega)]
      rfl

theorem cost_step {l : List Edge} {i : Nat} {e : Edge} (h : l[i]? = some e) : costE (l.take (i + 1)) = costE (l.take i) + e.c := by
  rw [take_step h]
  simp [costE, List.map_append, List.sum_append]

/- waymarkref40.Cost -/
set_option maxRecDepth 100000 in
set_option maxHeartbeats 400000 in
theorem ref40_Cost {l : List Edge} (hl : l.length ≤ 1000000) (hok : ∀ e ∈ l, edgeB e = true) : Triple Try.prog 34 [.sl 3 (l.map edgeC)] [] (Is (.v (.int .u64 (costE l))) []) := by
  refine triple_of Try.func34 rfl (by kernel_rfl) rfl (by simp) ?_
  refine aSeq ?_
  refine aReg ?_
  refine sp pMa ?_
  refine oNil ?_
  refine aSeq ?_
  refine aReg ?_
  refine sp pMa ?_
  refine oNil ?_
  refine aSeq ?_
  refine aSeq ?_
  refine aReg ?_
  refine sp pMa ?_
  refine oNil ?_
  refine aBlock ?_
  refine loopF (α := Nat) (kept := [(0, _)]) (fun i => i ≤ l.length) (fun i => [(3, .v (.int .u64 (costE (l.take i)))), (4, .int i)]) (fun i => []) (fun i => l.length - i) 0 ?_ ⟨gAv rfl (by first | rfl | (rw [cost_step hx14])), gInt rfl (by first | rfl | omega | simp), rfl, trivial⟩ (by repeat constructor) ?_
  · skip
    omega
  · rintro i hi
    refine aSeq ?_
    refine aSeq ?_
    refine aReg ?_
    refine sp pM ?_
    refine sp pM ?_
    refine sp (by first | exact pLm sl_56 | exact pLs sl_56) ?_
    refine sp pB ?_
    refine oNil ?_
    refine aCondDec rfl (fun c8 => ?_) (fun c8 => ?_)
    · skip
      refine aSkip ?_
      refine aSeq ?_
      refine aBlock ?_
      have hrt := costE_range (l := l.take i) (fun e he => hok e (List.mem_of_mem_take he))
      have htl := List.length_take_le' i l
      refine aReg ?_
      refine sp pM ?_
      refine sp pM ?_
      refine sp pM ?_
      first | refine sp (pIx es_56) ?_ | (refine obtSN 12 13 rfl rfl (by omega) (fun x14 hx14 => ?_); refine sp (pIs es_56 hx14) ?_) | (refine obtS 12 13 rfl rfl (by omega) (by omega) (fun x14 hx14 => ?_); refine sp (pIs es_56 hx14) ?_) | refine sp (pIo es_56) ?_
      refine sp (pFs fd_64_2) ?_
      refine sr (rS1 ty_3) ?_
      have hxb := edgeB_mk (hok x14 (List.mem_of_getElem? hx14))
      refine sp (by first | exact pCvK ik_3 ik_60 | exact pConv rfl rfl ik_3 ik_60 rfl) ?_
      refine sp (by first | exact pAdK | exact pB) ?_
      refine sp pMa ?_
      refine oNil ?_
      refine aReg ?_
      refine sp pM ?_
      refine sp pAd ?_
      refine sp pMa ?_
      refine oNil ?_
      refine ⟨i + 1, ?_, by (try dsimp only); omega, ⟨gAv rfl (by first | rfl | (rw [cost_step hx14])), gInt rfl (by first | rfl | omega | simp), rfl, trivial⟩, _, (by repeat constructor)⟩
      omega
    · skip
      refine aExit rfl ?_
      refine aSeq ?_
      refine aReg ?_
      refine sp pM ?_
      refine sp pMa ?_
      refine oNil ?_
      refine aRet ?_
      refine finIs rfl ?_
      show AV.v (.int .u64 (costE _)) = _
      rw [take_all (by omega)]

/- forest.Cost -/
set_option maxRecDepth 100000 in
set_option maxHeartbeats 400000 in
theorem forest_Cost {l : List Edge} (hl : l.length ≤ 1000000 := by omega) : Triple Try.prog 31 [.sl 3 (l.map edgeC)] [] (Is (.v (.int .u64 (if edgesB none l then costE l else 0))) []) := by
  refine triple_of Try.func31 rfl (by kernel_rfl) rfl (by simp) ?_
  refine aSeq ?_
  refine aReg ?_
  refine sp pMa ?_
  refine oNil ?_
  refine aSeq ?_
  refine aReg ?_
  refine sp pMa ?_
  refine oNil ?_
  refine aSeq ?_
  refine aSeq ?_
  refine aReg ?_
  refine sp pM ?_
  refine sq ?_
  refine cv rfl rfl rfl (lents_refl _) forest_Check ?_
  refine sp pB ?_
  refine oNil ?_
  refine aCondNe rfl (fun c8 => ?_) (fun c8 => ?_)
  · skip
    refine aSeq ?_
    refine aReg ?_
    refine sp pMa ?_
    refine oNil ?_
    refine aRet ?_
    refine finIs rfl ?_
    rw [if_neg (by simp_all)]
    rfl
  · skip
    refine aSkip ?_
    refine aSeq ?_
    refine aSeq ?_
    have hyes : edgesB none l = true := by simp_all
    have hok := edgesB_all hyes
    refine aReg ?_
    refine sp pM ?_
    refine sp (by first | exact pLm sl_56 | exact pLs sl_56) ?_
    refine sp pM ?_
    refine oNil ?_
    refine aBlock ?_
    refine loopF (α := Nat) (kept := [(9, _), (10, _)]) (fun i => i ≤ l.length) (fun i => [(3, .v (.int .u64 (costE (l.take i)))), (11, .int i)]) (fun i => []) (fun i => l.length - i) 0 ?_ ⟨gAv rfl (by first | rfl | (rw [cost_step hx13])), gInt rfl (by first | rfl | omega | simp), rfl, rfl, trivial⟩ (by repeat constructor) ?_
    · skip
      omega
    · rintro i hi
      refine aSeq ?_
      refine aReg ?_
      refine sp pB ?_
      refine oNil ?_
      refine aSeq ?_
      refine aCondDec rfl (fun c12 => ?_) (fun c12 => ?_)
      · skip
        refine aSkip ?_
        refine aSeq ?_
        refine aBlock ?_
        refine aSeq ?_
        have hrt := costE_range (l := l.take i) (fun e he => hok e (List.mem_of_mem_take he))
        have htl := List.length_take_le' i l
        refine aReg ?_
        first | refine sp (pIx es_56) ?_ | (refine obtSN 9 11 rfl rfl (by omega) (fun x13 hx13 => ?_); refine sp (pIs es_56 hx13) ?_) | (refine obtS 9 11 rfl rfl (by omega) (by omega) (fun x13 hx13 => ?_); refine sp (pIs es_56 hx13) ?_) | refine sp (pIo es_56) ?_
        refine sr (by first | exact rSW ty_64 rfl | exact rSA ty_64) ?_
        refine sq ?_
        refine qAlloc rfl rfl (by decide) ze_64 rfl (fun b5 => ?_)
        refine sa ?_
        refine oStW rfl rfl rfl rfl (by repeat constructor) ty_64 ?_
        refine oNil ?_
        refine aReg ?_
        refine sp pM ?_
        refine sp (pFb fd_64_2) ?_
        refine sr (rB1 ty_3) ?_
        have hxb := edgeB_mk (hok x13 (List.mem_of_getElem? hx13))
        refine sp (by first | exact pCvK ik_3 ik_60 | exact pConv rfl rfl ik_3 ik_60 rfl) ?_
        refine sp (by first | exact pAdK | exact pB) ?_
        refine sp pMa ?_
        refine oNil ?_
        refine aReg ?_
        refine sp pAd ?_
        refine sp pM ?_
        refine oNil ?_
        refine ⟨i + 1, ?_, by (try dsimp only); omega, ⟨gAv rfl (by first | rfl | (rw [cost_step hx13])), gInt rfl (by first | rfl | omega | simp), rfl, rfl, trivial⟩, _, (by repeat constructor)⟩
        omega
      · skip
        refine aExit rfl ?_
        refine aSeq ?_
        refine aReg ?_
        refine sp pM ?_
        refine sp pMa ?_
        refine oNil ?_
        refine aRet ?_
        refine finIs rfl ?_
        show AV.v (.int .u64 (costE _)) = _
        rw [take_all (by omega), if_pos hyes]

/- forest.sets).find -/
def forest_find_r2_T : Bool × List (List Nat × List Nat) := (true, [([], []), ([], []), ([], []), ([], []), ([], []), ([3], [3]), ([5, 4], [4, 5]), ([6], [6]), ([2], [2]), ([8, 7], [7, 8]), ([9], [9]), ([0], [0]), ([11, 1, 0, 1, 2, 3, 4, 5, 6, 7, 8, 9, 10], [1, 11]), ([12, 10, 0, 1, 2, 3, 4, 5, 6, 7, 8, 9, 10], [10, 12])])
def forest_find_r2_B : List Nat := [0, 0, 0, 0, 0, 8, 56, 120, 4, 508, 1020, 1, 4095, 8191]
theorem forest_find_r2_t : Go.Proofs.YtkgemkadebgeoaaW.PrintLast.rtab .any (Go.Proofs.YtkgemkadebgeoaaW.PrintLast.opsOf Try.f108 2) = forest_find_r2_T := by kernel_rfl
theorem forest_find_r2_b : Go.Proofs.YtkgemkadebgeoaaW.PrintLast.waitsOk forest_find_r2_T.2 forest_find_r2_B = true := by kernel_rfl
set_option maxRecDepth 100000 in
set_option maxHeartbeats 400000 in
theorem forest_find (sb : Nat) (d : Int → Nat) (s : Int → Int) (p : Pot d s) (n : Int) (h0 : 0 ≤ n) (h1 : n ≤ 64) : Triple Try.prog 108 [.v (.pointer (some ⟨sb, 0, none⟩)), .int n] [.box sb (arrF 65 (fun x => [inA x]) s)] (fun q h' => ∃ r s', q = .int r ∧ h' = [.box sb (arrF 65 (fun x => [inA x]) s')] ∧ Root s n r ∧ Pot d s' ∧ ∀ a r, 0 ≤ a → a ≤ 64 → (Root s' a r ↔ Root s a r)) := by
  refine triple_of Try.func108 rfl (by kernel_rfl) rfl (by simp) ?_
  refine aSeq ?_
  refine aReg ?_
  refine sp pMa ?_
  refine oNil ?_
  refine aSeq ?_
  refine aBlock ?_
  refine loopF (α := Int × (Int → Int)) (kept := [(0, _)]) (fun (m, s') => 0 ≤ m ∧ m ≤ 64 ∧ Pot d s' ∧ (∀ a r, 0 ≤ a → a ≤ 64 → (Root s' a r ↔ Root s a r)) ∧ (∀ r, Root s' m r → Root s n r)) (fun (m, s') => [(1, .int m)]) (fun (m, s') => [.box sb (arrF 65 (fun x => [inA x]) s')]) (fun (m, s') => d m) (n, s) ?_ ⟨gInt rfl (by simp), rfl, trivial⟩ (by repeat constructor) ?_
  · skip
    exact ⟨h0, h1, p, fun _ _ _ _ => Iff.rfl, fun _ h => h⟩
  · rintro ⟨m, s'⟩ ⟨hm0, hm1, hp, hr, hn⟩
    refine aSeq ?_
    refine aSeq ?_
    refine aReg ?_
    refine sp pM ?_
    refine sp pM ?_
    refine sp pNv ?_
    refine sp (pIa ar_139) ?_
    refine sr (by first | exact rAr ty_3 | exact rArL ty_3 | exact rArR ty_3 (by first | rfl | exact arrF_len one_len)) ?_
    refine sp pM ?_
    refine sp pB ?_
    refine oNil ?_
    refine aCondNe rfl (fun c11 => ?_) (fun c11 => ?_)
    · skip
      refine aSkip ?_
      refine aBlock ?_
      refine aSeq ?_
      have hne : s' m ≠ m := by simpa using c11
      have hg1 := hp.rng m hm0 hm1
      have hg2 := hp.rng (s' m) hg1.1 hg1.2
      obtain ⟨hhp, hhr, hd⟩ := halve hp hm0 hm1 hne
      refine aDrawT forest_find_r2_t forest_find_r2_b [13] 14 #[false, false, false, false, false, false, false, false, false, false, false, false, false, false] (by kernel_rfl) rfl rfl (fun HT => ?_)
      refine dp HT 0 rfl pM ?_
      refine dp HT 1 rfl pM ?_
      refine dp HT 2 rfl pM ?_
      refine dp HT 3 rfl pM ?_
      refine dp HT 4 rfl pM ?_
      refine dp HT 5 rfl pNv ?_
      refine dp HT 6 rfl (pIa ar_139) ?_
      refine dr HT 7 rfl (by first | exact rAr ty_3 | exact rArL ty_3 | exact rArR ty_3 (by first | rfl | exact arrF_len one_len)) ?_
      refine dp HT 8 rfl pNv ?_
      refine dp HT 9 rfl (pIa ar_139) ?_
      refine dr HT 10 rfl (by first | exact rAr ty_3 | exact rArL ty_3 | exact rArR ty_3 (by first | rfl | exact arrF_len one_len)) ?_
      refine dp HT 11 rfl pNv ?_
      refine dp HT 12 rfl (pIa ar_139) ?_
      refine dGo ?_
      refine eLast ?_
      refine f1 HT 13 rfl ?_
      first | refine oAr rfl rfl rfl (by repeat constructor) ty_3 ?_ | refine oArL rfl rfl rfl (by repeat constructor) ty_3 ?_ | refine oArR rfl rfl rfl (by repeat constructor) (by first | rfl | exact arrF_len one_len) ty_3 ?_
      refine fE HT ?_
      clear HT
      refine aReg ?_
      refine sp pM ?_
      refine sp pM ?_
      refine sp pNv ?_
      refine sp (pIa ar_139) ?_
      refine sr (by first | exact rAr ty_3 | exact rArL ty_3 | exact rArR ty_3 (by first | rfl | exact arrF_len one_len)) ?_
      refine sp pMa ?_
      refine oNil ?_
      refine ⟨(s' (s' m), updF s' m (s' (s' m))), ?_, by (try dsimp only); exact hd, ⟨gInt rfl (by simp), rfl, trivial⟩, _, (by repeat constructor)⟩
      refine ⟨hg2.1, hg2.2, hhp, fun a r ha0 ha1 => (hhr a r ha0 ha1).trans (hr a r ha0 ha1), fun r hrt => hn r ((hhr m r hm0 hm1).1 ?_)⟩
      have : updF s' m (s' (s' m)) m ≠ m := by rw [updF_same]; intro e; rw [e] at hd; omega
      exact .up this (by rw [updF_same]; exact hrt)
    · skip
      refine aExit rfl ?_
      refine aSeq ?_
      refine aReg ?_
      refine sp pM ?_
      refine sp pMa ?_
      refine oNil ?_
      refine aRet ?_
      have he : s' m = m := by simpa using c11
      exact ⟨_, [_], [], rfl, .cons .hd .nil, m, s', rfl, rfl, hn m (.here he), hp, hr⟩

end A
end Go.Proofs.Ytkgemkadebgeoaa
