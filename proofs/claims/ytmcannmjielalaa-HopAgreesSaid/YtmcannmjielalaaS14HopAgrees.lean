/- Whatever the input, waymarklaw44.HopAgrees returns true, and each argument reads as it did. -/
import Derived.KernelRfl
import Derived.Test.YtmcannmjielalaaProg
import Derived.Test.YtmcannmjielalaaS13HopAgrees
set_option linter.unusedVariables false
set_option linter.unusedSimpArgs false
namespace Go.Proofs.Ytmcannmjielalaa
namespace A
theorem bo_4 : isBoolT Try.prog 4 = true := by kernel_rfl
theorem el_81 : elemOf Try.prog 81 = some (55, 1, 24) := by kernel_rfl
theorem fd_83_0 : fieldOf Try.prog 83 0 = some (0, 1, false) := by kernel_rfl
theorem fd_83_1 : fieldOf Try.prog 83 1 = some (1, 1, false) := by kernel_rfl
theorem ik_5 : intKindOf Try.prog 5 = some .u8 := by kernel_rfl
theorem st_138 : structPlaces Try.prog 138 = some [(0, 1), (1, 1)] := by kernel_rfl
theorem us_55 : Try.prog.underlying 55 = some (.slice 141) := by kernel_rfl
theorem us_81 : Try.prog.underlying 81 = some (.slice 55) := by kernel_rfl
theorem ze_55 : zeroOf Try.prog 55 = some (.slice none 0 0) := by kernel_rfl
def pairD : List Lsa := [⟨1, 1, [⟨2, 3⟩]⟩, ⟨2, 1, [⟨1, 5⟩]⟩]
def pairB : List (List Lsa) := [pairD, pairD]
theorem pair_go : goW pairB 1 2 9 = ([1, 2], 1) := by decide +kernel
theorem pair_sum : sumW pairB 1 2 9 = 3 := by decide +kernel
theorem pair_cos : cosW pairB 1 2 9 = 3 := by decide +kernel
theorem pair_ok : okW pairB 1 2 9 = true := by decide +kernel
theorem pair_agree : agreeM pairB [1, 2] = true := by decide +kernel
theorem pair_len : ∀ x ∈ pairB, x.length < 9223372036854775807 := by decide
theorem pair_len2 : ∀ x ∈ pairB, x.length < 9223372036854775807 ∧ ∀ y ∈ x, y.ls.length < 9223372036854775807 := by decide
/- waymarklaw44.pair -/
set_option maxRecDepth 100000 in
set_option maxHeartbeats 400000 in
theorem law44_pair  : Triple Try.prog 155 [] [] (Is (.sl 3 (pairD.map lsaC)) []) := by
  refine triple_of Try.func155 rfl (by kernel_rfl) rfl (by simp) ?_
  refine aSeq ?_
  refine aReg ?_
  refine sp pMa ?_
  refine oNil ?_
  refine aSeq ?_
  refine aReg ?_
  refine sp (pBuild rfl st_138 ze_138 rfl rfl rfl rfl) ?_
  refine sq ?_
  refine qLit (l := [_]) rfl rfl (by decide) us_139 ty_138 ze_138 rfl (by decide) (by decide) rfl rfl rfl (fun b2 => ?_)
  refine sp (pBuild rfl st_141 ze_141 rfl rfl rfl rfl) ?_
  refine sp (pBuild rfl st_138 ze_138 rfl rfl rfl rfl) ?_
  refine sq ?_
  refine qLit (l := [_]) rfl rfl (by decide) us_139 ty_138 ze_138 rfl (by decide) (by decide) rfl rfl rfl (fun b5 => ?_)
  refine sp (pBuild rfl st_141 ze_141 rfl rfl rfl rfl) ?_
  refine sq ?_
  refine qLit (l := [_, _]) rfl rfl (by decide) us_55 ty_141 ze_141 rfl (by decide) (by decide) rfl rfl rfl (fun b7 => ?_)
  refine sp pMa ?_
  refine oNil ?_
  refine aWeak (weak_deep (k := 0) (b := .sl 3 (pairD.map lsaC)) rfl (.cons .hd (.cons .hd (.cons .hd .nil))) (by repeat constructor)) ?_
  refine aRet ?_
  refine finIs rfl rfl
/- waymarklaw44.awake -/
set_option maxRecDepth 100000 in
set_option maxHeartbeats 400000 in
theorem law44_awake  : Triple Try.prog 75 [] [] (Is (.v (.bool true)) []) := by
  refine triple_of Try.func75 rfl (by kernel_rfl) rfl (by simp) ?_
  refine aSeq ?_
  refine aReg ?_
  refine sp pMa ?_
  refine oNil ?_
  refine aSeq ?_
  refine aReg ?_
  refine sq ?_
  refine ci rfl rfl rfl law44_pair ?_
  refine sq ?_
  refine ci rfl rfl rfl law44_pair ?_
  refine sq ?_
  refine qLit (l := [_, _]) rfl rfl (by decide) us_81 ty_55 ze_55 rfl (by decide) (by decide) rfl rfl rfl (fun b8 => ?_)
  refine sp pMa ?_
  refine oNil ?_
  refine aSeq ?_
  refine aWeak (weak_settle (k := 1) rfl (by repeat constructor) (by first | rfl | (simp; done) | (simp; omega) | (simp_all; done))) ?_
  refine aReg ?_
  refine sp pM ?_
  refine sq ?_
  refine ci rfl rfl rfl (hop_Go_s (b := pairB) (fr := 1) (td := 2) (hops := 9) (by decide) pair_len) ?_
  rw [pair_go]
  refine sq ?_
  refine qAlloc rfl rfl (by decide) ze_86 rfl (fun b2 => ?_)
  refine sa ?_
  refine oStW rfl rfl rfl rfl (by repeat constructor) ty_86 ?_
  refine oNil ?_
  refine aSeq ?_
  refine aReg ?_
  refine sp pM ?_
  refine sq ?_
  refine ci rfl rfl rfl (hop_Stretch (b := pairB) (fr := 1) (td := 2) (hops := 9) (by decide) pair_len) ?_
  rw [pair_sum, pair_cos, pair_ok]
  refine sp pM ?_
  refine sp pX ?_
  refine sp pX ?_
  refine sp pX ?_
  refine sp pMa ?_
  refine sp pMa ?_
  refine sp pMa ?_
  refine oNil ?_
  refine aSeq ?_
  refine aReg ?_
  refine sp (pFb fd_86_1) ?_
  refine sr (rB1 ty_3) ?_
  refine sp pB ?_
  refine sp pM ?_
  refine gp (pFb fd_86_0) ?_
  refine gr (rB1 ty_25) ?_
  refine gp (by first | exact pLm sl_25 | exact pLs sl_25 | exact pLv sl_25) ?_
  refine gp pB ?_
  refine sp pK ?_
  refine sp pM ?_
  refine gp pM ?_
  refine sp pK ?_
  refine sp pM ?_
  refine gp pM ?_
  refine gp pB ?_
  refine sp pK ?_
  refine sp pM ?_
  refine gp pM ?_
  refine gp pB ?_
  refine sp pK ?_
  refine sp pM ?_
  refine gp pM ?_
  refine ga ?_
  refine (qLit (l := [_, _]) rfl rfl (by decide) us_25 ty_3 ze_3 rfl (by decide) (by decide) rfl rfl rfl (fun b39 => ?_)).op
  refine ga ?_
  refine (cv rfl rfl rfl (by repeat (first | exact .nil | refine .cons (.sl (by repeat (first | exact List.mem_cons_self | apply List.mem_cons_of_mem)) (by first | rfl | simp)) ?_ | refine .cons (.same _) ?_)) (hop_Agree (b := pairB) (l := [1, 2]) (by decide) (by decide) pair_len2) ?_).op
  rw [pair_agree]
  refine sp pK ?_
  refine sp pMa ?_
  refine oNil ?_
  refine aRet ?_
  refine finIs rfl ?_
  rfl
/- waymarklaw44.light -/
set_option maxRecDepth 100000 in
set_option maxHeartbeats 400000 in
theorem law44_light {b : List (List Lsa)} (hbl : b.length ≤ 9223372036854775807) : Triple Try.prog 74 [.sl 1 (b.map basC)] [] (Is (.v (.bool (lightM b))) []) := by
  refine triple_of Try.func74 rfl (by kernel_rfl) rfl (by simp) ?_
  refine aSeq ?_
  refine aReg ?_
  refine sp pMa ?_
  refine oNil ?_
  refine aSeq ?_
  refine aSeq ?_
  refine aReg ?_
  refine sp pMa ?_
  refine oNil ?_
  refine aBlock ?_
  refine loopF (α := Nat) (kept := [(0, _)]) (fun i => i ≤ b.length ∧ i ≤ 7 ∧ ∀ y ∈ b.take i, fewB y = true) (fun i => [(3, .int i)]) (fun i => []) (fun i => b.length - i) 0 ?_ ⟨gInt rfl (by first | rfl | omega | simp), rfl, trivial⟩ (by repeat constructor) ?_
  · skip
    exact ⟨by omega, by omega, fun y hy => by simp at hy⟩
  · rintro i ⟨hi, hi7, hv⟩
    refine aSeq ?_
    refine aSeq ?_
    refine aReg ?_
    refine sp pM ?_
    refine sp pM ?_
    refine sp (by first | exact pLm sl_81 | exact pLs sl_81) ?_
    refine sp pB ?_
    refine sp pM ?_
    refine oSplitDec 8 rfl (fun c8 => ?_) (fun c8 => ?_)
    · skip
      refine gp pM ?_
      refine gp pB ?_
      refine sp pK ?_
      refine oNil ?_
      refine aCondDec rfl (fun c11 => ?_) (fun c11 => ?_)
      · skip
        refine aSkip ?_
        refine aSeq ?_
        refine aBlock ?_
        refine aSeq ?_
        obtain ⟨x, hx⟩ : ∃ z, b[i]? = some z := ⟨_, List.getElem?_eq_getElem (by omega)⟩
        refine aReg ?_
        refine sp pM ?_
        refine sp pM ?_
        first | refine sp (pIx es_81) ?_ | (refine obtSN 14 15 rfl rfl (by omega) (fun x16 hx16 => ?_); refine sp (pIs es_81 hx16) ?_) | (refine obtS 14 15 rfl rfl (by omega) (by omega) (fun x16 hx16 => ?_); refine sp (pIs es_81 hx16) ?_) | refine sp (pIo es_81) ?_
        refine sr (rS1 ty_55) ?_
        refine sp (by first | exact pLm sl_55 | exact pLs sl_55 | exact pLv sl_55) ?_
        refine sp pB ?_
        refine sp pM ?_
        refine oSplitDec 20 rfl (fun c20 => ?_) (fun c20 => ?_)
        · skip
          refine gf ?_
          refine gf ?_
          refine gf ?_
          refine gf ?_
          refine gf ?_
          refine gf ?_
          refine sp pK ?_
          refine oNil ?_
          refine aCondT rfl ?_
          refine aSeq ?_
          refine aReg ?_
          refine sp pMa ?_
          refine oNil ?_
          refine aRet ?_
          refine finIs rfl ?_
          have hbad : lightM b = false := by
            refine light_bad (List.mem_of_getElem? hx) ?_
            first
              | exact few_bad1 (by omega)
              | exact few_bad2 (by assumption)
          rw [hbad]
          rfl
        · skip
          refine gp pM ?_
          refine gp pM ?_
          first | refine gp (pIx es_81) ?_ | (refine obtSN 21 22 rfl rfl (by omega) (fun x23 hx23 => ?_); refine gp (pIs es_81 hx23) ?_) | (refine obtS 21 22 rfl rfl (by omega) (by omega) (fun x23 hx23 => ?_); refine gp (pIs es_81 hx23) ?_) | refine gp (pIo es_81) ?_
          refine gr (rS1 ty_55) ?_
          refine ga ?_
          refine (cv rfl rfl rfl (lents_refl _) (law19_Light_v (db := x)) ?_).op
          refine gp pNo ?_
          refine sp pK ?_
          refine oNil ?_
          refine aCondNot rfl (fun c27 => ?_) (fun c27 => ?_)
          · skip
            refine aSeq ?_
            refine aReg ?_
            refine sp pMa ?_
            refine oNil ?_
            refine aRet ?_
            refine finIs rfl ?_
            have hbad : lightM b = false := by
              refine light_bad (List.mem_of_getElem? hx) ?_
              first
                | exact few_bad1 (by omega)
                | exact few_bad2 (by assumption)
            rw [hbad]
            rfl
          · skip
            refine aSkip ?_
            refine aReg ?_
            refine sp pM ?_
            refine sp pAd ?_
            refine sp pMa ?_
            refine oNil ?_
            refine ⟨i + 1, ?_, by (try dsimp only); omega, ⟨gInt rfl (by first | rfl | omega | simp), rfl, trivial⟩, _, (by repeat constructor)⟩
            refine ⟨by omega, by omega, fun y hy => ?_⟩
            rw [take_step hx] at hy
            rcases List.mem_append.1 hy with hy | hy
            · exact hv y hy
            · rw [List.mem_singleton.1 hy]; exact few_good (by omega) (by assumption)
      · skip
        refine aExit rfl ?_
        refine aSeq ?_
        refine aReg ?_
        refine sp pM ?_
        refine sp (by first | exact pLm sl_81 | exact pLs sl_81) ?_
        refine sp pB ?_
        refine sp pMa ?_
        refine oNil ?_
        refine aRet ?_
        refine finIs rfl ?_
        rw [light_end hi hv (by omega)]
        simp [retOf]
        omega
    · skip
      refine gf ?_
      refine gf ?_
      refine sp pK ?_
      refine oNil ?_
      refine aCondF rfl ?_
      refine aExit rfl ?_
      refine aSeq ?_
      refine aReg ?_
      refine sp pM ?_
      refine sp (by first | exact pLm sl_81 | exact pLs sl_81) ?_
      refine sp pB ?_
      refine sp pMa ?_
      refine oNil ?_
      refine aRet ?_
      refine finIs rfl ?_
      rw [light_end hi hv (by omega)]
      simp [retOf]
      omega
/- waymarklaw44.HopAgrees -/
def law44_HopAgrees_r13_T : Bool × List (List Nat × List Nat) := (true, [([], []), ([0], [0]), ([], []), ([2], [2]), ([1, 3], [1, 3]), ([4], [4]), ([5], [5]), ([5], [5]), ([7, 5], [5, 7]), ([6, 8, 5, 5], [5, 6, 8]), ([5], [5]), ([10, 5], [5, 10]), ([9, 11, 9, 5], [5, 9, 11]), ([12, 5], [5, 12]), ([13, 5], [5, 13]), ([5, 14], [5, 14]), ([15, 12, 0, 1, 2, 3, 4, 5, 6, 7, 8, 9, 10, 11, 12, 13, 14, 15], [15])])
def law44_HopAgrees_r13_B : List Nat := [0, 1, 0, 4, 15, 31, 63, 63, 191, 511, 63, 1087, 4095, 8191, 16383, 32767, 65535]
theorem law44_HopAgrees_r13_t : Go.Proofs.YtmcannmjielalaaW.PrintLast.rtab .any (Go.Proofs.YtmcannmjielalaaW.PrintLast.opsOf Try.f15 13) = law44_HopAgrees_r13_T := by kernel_rfl
theorem law44_HopAgrees_r13_b : Go.Proofs.YtmcannmjielalaaW.PrintLast.waitsOk law44_HopAgrees_r13_T.2 law44_HopAgrees_r13_B = true := by kernel_rfl
def law44_HopAgrees_r20_T : Bool × List (List Nat × List Nat) := (true, [([], []), ([0], [0]), ([], []), ([1, 2], [1, 2]), ([3], [3]), ([], []), ([5], [5]), ([], []), ([6, 7], [6, 7]), ([8], [8]), ([4, 9], [4, 9])])
def law44_HopAgrees_r20_B : List Nat := [0, 1, 0, 7, 15, 0, 32, 0, 224, 480, 1023]
theorem law44_HopAgrees_r20_t : Go.Proofs.YtmcannmjielalaaW.PrintLast.rtab .any (Go.Proofs.YtmcannmjielalaaW.PrintLast.opsOf Try.f15 20) = law44_HopAgrees_r20_T := by kernel_rfl
theorem law44_HopAgrees_r20_b : Go.Proofs.YtmcannmjielalaaW.PrintLast.waitsOk law44_HopAgrees_r20_T.2 law44_HopAgrees_r20_B = true := by kernel_rfl
set_option maxRecDepth 100000 in
set_option maxHeartbeats 4000000 in
theorem law44_HopAgrees {db : List Lsa} {nd fr td hops : Int} (hn1 : 0 ≤ nd) (hn2 : nd < 256) (hdl : db.length ≤ 9223372036854775807) : Triple Try.prog 15 [.sl 3 (db.map lsaC), .v (.int .u8 nd), .agg [.int fr, .int td, .int hops]] [] (Is (.v (.bool true)) []) := by
  refine triple_of Try.func15 rfl (by kernel_rfl) rfl (by simp) ?_
  refine aSeq ?_
  refine aReg ?_
  refine sq ?_
  refine qBox rfl rfl (by decide) rfl rfl (fun b5 => ?_)
  refine sp pMa ?_
  refine oNil ?_
  refine aSeq ?_
  refine aSeq ?_
  refine aReg ?_
  refine sp pM ?_
  refine sq ?_
  refine qLit (l := [_]) rfl rfl (by decide) us_81 ty_55 ze_55 rfl (by decide) (by decide) rfl rfl rfl (fun b18 => ?_)
  refine sq ?_
  refine cv rfl rfl rfl (by repeat (first | exact .nil | refine .cons (.sl (by repeat (first | exact List.mem_cons_self | apply List.mem_cons_of_mem)) (by first | rfl | simp)) ?_ | refine .cons (.same _) ?_)) (law44_light (b := [db]) (by simp)) ?_
  refine sp pNo ?_
  refine sp pM ?_
  refine oSplitNot 21 rfl (fun c21 => ?_) (fun c21 => ?_)
  · skip
    refine gf ?_
    refine gf ?_
    refine gf ?_
    refine sp pK ?_
    refine sp pM ?_
    refine gf ?_
    refine gf ?_
    refine gf ?_
    refine sp pK ?_
    refine sp pM ?_
    refine gf ?_
    refine gf ?_
    refine gf ?_
    refine sp pK ?_
    refine sp pM ?_
    refine gf ?_
    refine gf ?_
    refine gf ?_
    refine sp pK ?_
    refine sp pM ?_
    refine gf ?_
    refine gf ?_
    refine gf ?_
    refine sp pK ?_
    refine oNil ?_
    refine aCondT rfl ?_
    refine aSeq ?_
    refine aReg ?_
    refine sq ?_
    refine cv rfl rfl rfl (lents_refl _) law44_awake ?_
    refine sp pMa ?_
    refine oNil ?_
    refine aRet ?_
    refine finIs rfl ?_
    rfl
  · skip
    have hlt := light_yes (b := [db]) (by assumption)
    have hfew := hlt.2 db (by simp)
    refine gp pM ?_
    refine ga ?_
    refine (cv rfl rfl rfl (lents_refl _) (ref19_May_v (db := db) (by omega) (fun x hx => by have := hfew.2 x hx; omega)) ?_).op
    refine gp pNo ?_
    refine sp pK ?_
    refine sp pM ?_
    refine oSplitNot 26 rfl (fun c26 => ?_) (fun c26 => ?_)
    · skip
      refine gf ?_
      refine gf ?_
      refine gf ?_
      refine sp pK ?_
      refine sp pM ?_
      refine gf ?_
      refine gf ?_
      refine gf ?_
      refine sp pK ?_
      refine sp pM ?_
      refine gf ?_
      refine gf ?_
      refine gf ?_
      refine sp pK ?_
      refine sp pM ?_
      refine gf ?_
      refine gf ?_
      refine gf ?_
      refine sp pK ?_
      refine oNil ?_
      refine aCondT rfl ?_
      refine aSeq ?_
      refine aReg ?_
      refine sq ?_
      refine cv rfl rfl rfl (lents_refl _) law44_awake ?_
      refine sp pMa ?_
      refine oNil ?_
      refine aRet ?_
      refine finIs rfl ?_
      rfl
    · skip
      refine gp (pFb fd_83_0) ?_
      refine gr (rB1 ty_3) ?_
      refine gp pB ?_
      refine sp pK ?_
      refine sp pM ?_
      refine oSplitDec 31 rfl (fun c31 => ?_) (fun c31 => ?_)
      · skip
        refine gf ?_
        refine gf ?_
        refine gf ?_
        refine sp pK ?_
        refine sp pM ?_
        refine gf ?_
        refine gf ?_
        refine gf ?_
        refine sp pK ?_
        refine sp pM ?_
        refine gf ?_
        refine gf ?_
        refine gf ?_
        refine sp pK ?_
        refine oNil ?_
        refine aCondT rfl ?_
        refine aSeq ?_
        refine aReg ?_
        refine sq ?_
        refine cv rfl rfl rfl (lents_refl _) law44_awake ?_
        refine sp pMa ?_
        refine oNil ?_
        refine aRet ?_
        refine finIs rfl ?_
        rfl
      · skip
        refine gp (pFb fd_83_0) ?_
        refine gr (rB1 ty_3) ?_
        refine gp pB ?_
        refine sp pK ?_
        refine sp pM ?_
        refine oSplitDec 36 rfl (fun c36 => ?_) (fun c36 => ?_)
        · skip
          refine gf ?_
          refine gf ?_
          refine gf ?_
          refine sp pK ?_
          refine sp pM ?_
          refine gf ?_
          refine gf ?_
          refine gf ?_
          refine sp pK ?_
          refine oNil ?_
          refine aCondT rfl ?_
          refine aSeq ?_
          refine aReg ?_
          refine sq ?_
          refine cv rfl rfl rfl (lents_refl _) law44_awake ?_
          refine sp pMa ?_
          refine oNil ?_
          refine aRet ?_
          refine finIs rfl ?_
          rfl
        · skip
          refine gp (pFb fd_83_1) ?_
          refine gr (rB1 ty_3) ?_
          refine gp pB ?_
          refine sp pK ?_
          refine sp pM ?_
          refine oSplitDec 41 rfl (fun c41 => ?_) (fun c41 => ?_)
          · skip
            refine gf ?_
            refine gf ?_
            refine gf ?_
            refine sp pK ?_
            refine oNil ?_
            refine aCondT rfl ?_
            refine aSeq ?_
            refine aReg ?_
            refine sq ?_
            refine cv rfl rfl rfl (lents_refl _) law44_awake ?_
            refine sp pMa ?_
            refine oNil ?_
            refine aRet ?_
            refine finIs rfl ?_
            rfl
          · skip
            refine gp (pFb fd_83_1) ?_
            refine gr (rB1 ty_3) ?_
            refine gp pB ?_
            refine sp pK ?_
            refine oNil ?_
            refine aCondDec rfl (fun c45 => ?_) (fun c45 => ?_)
            · skip
              refine aSeq ?_
              refine aReg ?_
              refine sq ?_
              refine cv rfl rfl rfl (lents_refl _) law44_awake ?_
              refine sp pMa ?_
              refine oNil ?_
              refine aRet ?_
              refine finIs rfl ?_
              rfl
            · skip
              refine aSkip ?_
              refine aSeq ?_
              have hlt := light_yes (b := [db]) (by assumption)
              have hfew := hlt.2 db (by simp)
              have hyes : lsdbB 0 db = true := by assumption
              have hr : 1 ≤ fr ∧ fr ≤ 64 ∧ 1 ≤ td ∧ td ≤ 64 := by omega
              obtain ⟨hf1, hf2⟩ := rep_facts hyes hr.1 hr.2.1 hr.2.2.1 hr.2.2.2
              have hf3 := sum_rep hyes hr.1 hr.2.1 hr.2.2.1 hr.2.2.2
              have hf4 := rep_nodup hyes hr.1 hr.2.1 hr.2.2.1 hr.2.2.2
              have hrs2 : ∀ x ∈ repM db, x.length < 9223372036854775807 ∧ ∀ y ∈ x, y.ls.length < 9223372036854775807 := fun x hx => by
                unfold repM at hx
                rw [(List.mem_replicate.1 hx).2]
                exact ⟨by omega, fun y hy => by have := hfew.2 y hy; omega⟩
              have hrs : ∀ x ∈ repM db, x.length < 9223372036854775807 := fun x hx => (hrs2 x hx).1
              have hWl := goW_len (repM db) fr td 64
              refine aReg ?_
              refine sq ?_
              refine qLit (l := []) rfl rfl (by decide) us_81 ty_55 ze_55 rfl (by decide) (by decide) rfl rfl rfl (fun b47 => ?_)
              refine sp pMa ?_
              refine oNil ?_
              refine aSeq ?_
              refine aReg ?_
              refine sq ?_
              refine qLit (l := []) rfl rfl (by decide) us_25 ty_3 ze_3 rfl (by decide) (by decide) rfl rfl rfl (fun b48 => ?_)
              refine sp pMa ?_
              refine oNil ?_
              refine aSeq ?_
              refine aSeq ?_
              refine aReg ?_
              refine sp pMa ?_
              refine oNil ?_
              refine aBlock ?_
              refine loopF (α := Nat × List (List Lsa) × List Int × (Option Nat × Nat) × (Option Nat × Nat)) (kept := [(0, _), (1, _), (5, _)]) (fun (n, bs, al, (g, c), (g2, c2)) => n ≤ 64 ∧ bs = List.replicate n db ∧ al.length ≤ n ∧ ∀ y ∈ al, 1 ≤ y ∧ y ≤ 64) (fun (n, bs, al, (g, c), (g2, c2)) => [(9, .int ((n + 1 : Nat) : Int)), (7, .v (slV g bs.length c)), (8, .v (slV g2 al.length c2))]) (fun (n, bs, al, (g, c), (g2, c2)) => [.sl g c 55 1 (bs.map basC), .sl g2 c2 3 1 (al.map intA)]) (fun (n, bs, al, (g, c), (g2, c2)) => 64 - n) (0, [], [], (_, _), (_, _)) ?_ ⟨gInt rfl (by first | rfl | omega | simp), gLen rfl (by first | rfl | simp | (simp; omega)), gLen rfl (by first | rfl | simp | (simp; omega)), rfl, rfl, rfl, trivial⟩ (by repeat constructor) ?_
              · skip
                exact ⟨by omega, rfl, by simp, fun y hy => by simp at hy⟩
              · rintro ⟨n, bs, al, ⟨g, c⟩, ⟨g2, c2⟩⟩ ⟨hn, hbs, hal, hal2⟩
                refine aSeq ?_
                refine aSeq ?_
                refine aReg ?_
                refine sp pM ?_
                refine sp pB ?_
                refine oNil ?_
                refine aCondDec rfl (fun c50 => ?_) (fun c50 => ?_)
                · skip
                  refine aSkip ?_
                  refine aSeq ?_
                  refine aBlock ?_
                  refine aSeq ?_
                  have hbl : bs.length = n := by rw [hbs]; simp
                  refine aReg ?_
                  refine sp pM ?_
                  refine sp pM ?_
                  refine sq ?_
                  refine qLit (l := [_]) rfl rfl (by decide) us_81 ty_55 ze_55 rfl (by decide) (by decide) rfl rfl rfl (fun b55 => ?_)
                  refine sa ?_
                  refine oAppT ([db] : List (List Lsa)) rfl rfl (by repeat constructor) (srcOwn rfl (by repeat constructor) rfl) el_81 sl_81 (fun g56 k56 => ?_)
                  refine sp pMa ?_
                  refine oNil ?_
                  refine aSeq ?_
                  refine aReg ?_
                  refine sp pM ?_
                  refine sp pM ?_
                  refine sp (by first | exact pCvK ik_5 ik_3 | exact pConv rfl rfl ik_5 ik_3 rfl) ?_
                  refine sp (pRem rfl rfl rfl (by first | decide | omega)) ?_
                  rw [Int.tmod_eq_emod_of_nonneg hn1]
                  refine sp pAd ?_
                  refine sp pB ?_
                  refine oNil ?_
                  refine aCondDec rfl (fun c62 => ?_) (fun c62 => ?_)
                  · skip
                    refine aReg ?_
                    refine sp pM ?_
                    refine sp pM ?_
                    refine sq ?_
                    refine qLit (l := [_]) rfl rfl (by decide) us_25 ty_3 ze_3 rfl (by decide) (by decide) rfl rfl rfl (fun b65 => ?_)
                    refine sa ?_
                    refine oAppT ([((n + 1 : Nat) : Int)] : List Int) rfl rfl (by repeat constructor) (srcOwn rfl (by repeat constructor) rfl) el_25 sl_25 (fun g66 k66 => ?_)
                    refine sp pMa ?_
                    refine oNil ?_
                    refine aReg ?_
                    refine sp pM ?_
                    refine sp pAd ?_
                    refine sp pMa ?_
                    refine oNil ?_
                    refine ⟨(n + 1, _, _, (_, _), (_, _)), ?_, by (try dsimp only); omega, ⟨gInt rfl (by first | rfl | omega | simp), gLen rfl (by first | rfl | simp | (simp; omega)), gLen rfl (by first | rfl | simp | (simp; omega)), rfl, rfl, rfl, trivial⟩, _, (by repeat constructor)⟩
                    refine ⟨by omega, by rw [hbs, List.replicate_succ'], ?_, ?_⟩
                    · first
                        | (rw [List.length_append, List.length_singleton]; omega)
                        | omega
                    · intro y hy
                      first
                        | exact hal2 y hy
                        | (rcases List.mem_append.1 hy with hy | hy
                           · exact hal2 y hy
                           · rw [List.mem_singleton.1 hy]; omega)
                  · skip
                    refine aSkip ?_
                    refine aReg ?_
                    refine sp pM ?_
                    refine sp pAd ?_
                    refine sp pMa ?_
                    refine oNil ?_
                    refine ⟨(n + 1, _, _, (_, _), (_, _)), ?_, by (try dsimp only); omega, ⟨gInt rfl (by first | rfl | omega | simp), gLen rfl (by first | rfl | simp | (simp; omega)), gLen rfl (by first | rfl | simp | (simp; omega)), rfl, rfl, rfl, trivial⟩, _, (by repeat constructor)⟩
                    refine ⟨by omega, by rw [hbs, List.replicate_succ'], ?_, ?_⟩
                    · first
                        | (rw [List.length_append, List.length_singleton]; omega)
                        | omega
                    · intro y hy
                      first
                        | exact hal2 y hy
                        | (rcases List.mem_append.1 hy with hy | hy
                           · exact hal2 y hy
                           · rw [List.mem_singleton.1 hy]; omega)
                · skip
                  refine aExit rfl ?_
                  refine aSeq ?_
                  obtain rfl : n = 64 := by omega
                  subst hbs
                  rw [show List.replicate 64 db = repM db from rfl]
                  refine aWeak (weak_settle (k := 7) rfl (by repeat constructor) (by first | rfl | (simp; done) | (simp; omega) | (simp_all; done))) ?_
                  refine aWeak (weak_settle (k := 8) rfl (by repeat constructor) (by first | rfl | (simp; done) | (simp; omega) | (simp_all; done))) ?_
                  refine aReg ?_
                  refine sp pM ?_
                  refine sp (pFb fd_83_0) ?_
                  refine sr (rB1 ty_3) ?_
                  refine sp (pFb fd_83_1) ?_
                  refine sr (rB1 ty_3) ?_
                  refine sq ?_
                  refine ci rfl rfl rfl (hop_Go_s (b := repM db) (fr := fr) (td := td) (hops := 64) (by unfold repM; simp) hrs) ?_
                  refine sq ?_
                  refine qAlloc rfl rfl (by decide) ze_86 rfl (fun b10 => ?_)
                  refine sa ?_
                  refine oStW rfl rfl rfl rfl (by repeat constructor) ty_86 ?_
                  refine oNil ?_
                  refine aSeq ?_
                  refine aReg ?_
                  refine sp pM ?_
                  refine sp (pFb fd_83_0) ?_
                  refine sr (rB1 ty_3) ?_
                  refine sp (pFb fd_83_1) ?_
                  refine sr (rB1 ty_3) ?_
                  refine sq ?_
                  refine ci rfl rfl rfl (hop_Stretch (b := repM db) (fr := fr) (td := td) (hops := 64) (by unfold repM; simp) hrs) ?_
                  refine sp pM ?_
                  refine sp pX ?_
                  refine sp pX ?_
                  refine sp pX ?_
                  refine sp pMa ?_
                  refine sp pMa ?_
                  refine sp pMa ?_
                  refine oNil ?_
                  refine aSeq ?_
                  refine aDrawT law44_HopAgrees_r13_t law44_HopAgrees_r13_b [] 17 #[false, false, false, false, false, false, false, false, false, false, false, false, false, false, false, false, false] (by kernel_rfl) rfl rfl (fun HT => ?_)
                  refine dp HT 0 rfl (pFb fd_83_0) ?_
                  refine dr HT 1 rfl (rB1 ty_3) ?_
                  refine dp HT 2 rfl (pFb fd_83_1) ?_
                  refine dr HT 3 rfl (rB1 ty_3) ?_
                  refine dp HT 4 rfl pB ?_
                  refine dp HT 5 rfl pM ?_
                  refine dSplitEq 88 rfl (fun c88 => ?_) (fun c88 => ?_)
                  · skip
                    refine dS HT 6 rfl ?_
                    refine dS HT 7 rfl ?_
                    refine dS HT 8 rfl ?_
                    refine dS HT 9 rfl ?_
                    refine dS HT 10 rfl ?_
                    refine dS HT 11 rfl ?_
                    refine dGo ?_
                    refine eS HT 12 rfl ?_
                    refine eS HT 13 rfl ?_
                    refine eS HT 14 rfl ?_
                    refine ef HT 15 rfl pK ?_
                    refine ef HT 16 rfl pMa ?_
                    refine eE HT ?_
                    clear HT
                    refine aSeq ?_
                    refine aSeq ?_
                    refine aReg ?_
                    refine sp pMa ?_
                    refine oNil ?_
                    refine aBlock ?_
                    refine loopF (α := Nat) (kept := [(7, _), (8, _), (10, _), (11, _), (12, _), (13, _), (14, _)]) (fun i => i ≤ (goW (repM db) fr td 64).1.length) (fun i => [(15, .int i)]) (fun i => []) (fun i => (goW (repM db) fr td 64).1.length - i) 0 ?_ ⟨gInt rfl (by first | rfl | omega | simp), rfl, rfl, rfl, rfl, rfl, rfl, rfl, trivial⟩ (by repeat constructor) ?_
                    · skip
                      omega
                    · rintro i hi
                      refine aSeq ?_
                      refine aSeq ?_
                      refine aReg ?_
                      refine sp pM ?_
                      refine sp (pFb fd_86_0) ?_
                      refine sr (rB1 ty_25) ?_
                      refine sp (by first | exact pLm sl_25 | exact pLs sl_25 | exact pLv sl_25) ?_
                      refine sp pB ?_
                      refine oNil ?_
                      refine aCondDec rfl (fun c103 => ?_) (fun c103 => ?_)
                      · skip
                        refine aSkip ?_
                        refine aSeq ?_
                        refine aBlock ?_
                        refine aSeq ?_
                        refine aReg ?_
                        refine sp pMa ?_
                        refine oNil ?_
                        refine aBlock ?_
                        refine loopF (α := Nat) (kept := [(7, _), (8, _), (10, _), (11, _), (12, _), (13, _), (14, _), (15, _)]) (fun k => k ≤ i) (fun k => [(16, .int k)]) (fun k => []) (fun k => i - k) 0 ?_ ⟨gInt rfl (by first | rfl | omega | simp), rfl, rfl, rfl, rfl, rfl, rfl, rfl, rfl, trivial⟩ (by repeat constructor) ?_
                        · skip
                          omega
                        · rintro k hk
                          refine aSeq ?_
                          refine aSeq ?_
                          refine aReg ?_
                          refine sp pM ?_
                          refine sp pM ?_
                          refine sp pB ?_
                          refine oNil ?_
                          refine aCondDec rfl (fun c108 => ?_) (fun c108 => ?_)
                          · skip
                            refine aSkip ?_
                            refine aSeq ?_
                            refine aBlock ?_
                            refine aSeq ?_
                            obtain ⟨x, hx⟩ : ∃ z, (goW (repM db) fr td 64).1[i]? = some z := ⟨_, List.getElem?_eq_getElem (by omega)⟩
                            obtain ⟨y, hy⟩ : ∃ z, (goW (repM db) fr td 64).1[k]? = some z := ⟨_, List.getElem?_eq_getElem (by omega)⟩
                            refine aDrawT law44_HopAgrees_r20_t law44_HopAgrees_r20_b [] 11 #[false, false, false, false, false, false, false, false, false, false, false] (by kernel_rfl) rfl rfl (fun HT => ?_)
                            refine dp HT 0 rfl (pFb fd_86_0) ?_
                            refine dr HT 1 rfl (rB1 ty_25) ?_
                            refine dp HT 2 rfl pM ?_
                            first | refine dp HT 3 rfl (pIx es_25) ?_ | (refine obtDN 112 113 rfl rfl (by omega) (fun x114 hx114 => ?_); refine dp HT 3 rfl (pIs es_25 hx114) ?_) | (refine obtD 112 113 rfl rfl (by omega) (by omega) (fun x114 hx114 => ?_); refine dp HT 3 rfl (pIs es_25 hx114) ?_) | refine dp HT 3 rfl (pIo es_25) ?_
                            refine dr HT 4 rfl (by first | exact rS1 ty_3 | exact rB1 ty_3 | exact rAr ty_3 | exact rArL ty_3 | exact rArR2 ty_3) ?_
                            refine dp HT 5 rfl (pFb fd_86_0) ?_
                            refine dr HT 6 rfl (rB1 ty_25) ?_
                            refine dp HT 7 rfl pM ?_
                            first | refine dp HT 8 rfl (pIx es_25) ?_ | (refine obtDN 117 118 rfl rfl (by omega) (fun x119 hx119 => ?_); refine dp HT 8 rfl (pIs es_25 hx119) ?_) | (refine obtD 117 118 rfl rfl (by omega) (by omega) (fun x119 hx119 => ?_); refine dp HT 8 rfl (pIs es_25 hx119) ?_) | refine dp HT 8 rfl (pIo es_25) ?_
                            refine dr HT 9 rfl (by first | exact rS1 ty_3 | exact rB1 ty_3 | exact rAr ty_3 | exact rArL ty_3 | exact rArR2 ty_3) ?_
                            refine dp HT 10 rfl pB ?_
                            refine dE HT ?_
                            clear HT
                            refine aCondEq rfl (fun c121 => ?_) (fun c121 => ?_)
                            · skip
                              refine aSeq ?_
                              refine aReg ?_
                              refine sp pMa ?_
                              refine oNil ?_
                              refine aRet ?_
                              exfalso
                              have hxy : y = x := by assumption
                              have hkl := (List.getElem?_eq_some_iff.1 hy).1
                              have hxl := (List.getElem?_eq_some_iff.1 hx).1
                              have e1 := (List.getElem?_eq_some_iff.1 hy).2
                              have e2 := (List.getElem?_eq_some_iff.1 hx).2
                              have := (List.pairwise_iff_getElem.1 (List.nodup_iff_pairwise_ne.1 hf4)) k i hkl hxl (by omega)
                              rw [e1, e2] at this
                              exact this hxy
                            · skip
                              refine aSkip ?_
                              refine aReg ?_
                              refine sp pM ?_
                              refine sp pAd ?_
                              refine sp pMa ?_
                              refine oNil ?_
                              refine ⟨k + 1, ?_, by (try dsimp only); omega, ⟨gInt rfl (by first | rfl | omega | simp), rfl, rfl, rfl, rfl, rfl, rfl, rfl, rfl, trivial⟩, _, (by repeat constructor)⟩
                              omega
                          · skip
                            refine aExit rfl ?_
                            refine aReg ?_
                            refine sp pM ?_
                            refine sp pAd ?_
                            refine sp pMa ?_
                            refine oNil ?_
                            refine ⟨i + 1, ?_, by (try dsimp only); omega, ⟨gInt rfl (by first | rfl | omega | simp), rfl, rfl, rfl, rfl, rfl, rfl, rfl, trivial⟩, _, (by repeat constructor)⟩
                            omega
                      · skip
                        refine aExit rfl ?_
                        refine aSeq ?_
                        have hag := rep_agree hyes hal2
                        obtain ⟨p, hp⟩ : ∃ p, p = reachB db fr td := ⟨_, rfl⟩
                        rw [hf1, hf2, hf3, ← hp]
                        first
                          | (have hp1 := hp.trans (reach_eq (by assumption)); subst hp1)
                          | rw [← hp.trans (reach_ne (by assumption))]
                        refine aReg ?_
                        refine sp pM ?_
                        refine sp pM ?_
                        refine sp (pBl (by exact pEqBe bo_4) (show _ = true from by first | rfl | (cases p <;> rfl))) ?_
                        refine sp pM ?_
                        refine gp (pFb fd_86_1) ?_
                        refine gr (rB1 ty_3) ?_
                        refine gp pB ?_
                        refine gp pM ?_
                        refine gp (pBl (by exact pEqBe bo_4) (show _ = true from by first | rfl | (cases p <;> rfl))) ?_
                        refine sp pK ?_
                        refine sp pM ?_
                        refine gp (pFb fd_86_1) ?_
                        refine gr (rB1 ty_3) ?_
                        refine gp pB ?_
                        refine gp pM ?_
                        refine gp pNo ?_
                        refine gp (pBl (by exact pEqBe bo_4) (show _ = true from by first | rfl | (cases p <;> rfl))) ?_
                        refine sp pK ?_
                        refine sp pM ?_
                        refine gp pM ?_
                        refine gp pM ?_
                        refine gp (pBl (by exact pB) (show _ = true from by simp)) ?_
                        refine sp pK ?_
                        refine sp pM ?_
                        refine gp pM ?_
                        refine gp pM ?_
                        refine ga ?_
                        refine (cv rfl rfl rfl (lents_refl _) (hop_Agree (b := repM db) (l := al) (by omega) (by unfold repM; simp) hrs2) ?_).op
                        rw [hag]
                        refine sp pK ?_
                        refine sp pM ?_
                        refine ga ?_
                        refine (cv rfl rfl rfl (lents_refl _) law44_awake ?_).op
                        refine sp pK ?_
                        refine sp pMa ?_
                        refine oNil ?_
                        refine aRet ?_
                        refine finIs rfl ?_
                        rfl
                  · skip
                    refine dpG HT 6 rfl pM ?_
                    refine dpG HT 7 rfl (pFb fd_83_0) ?_
                    refine drG HT 8 rfl (rB1 ty_3) ?_
                    refine dpG HT 10 rfl (pFb fd_83_1) ?_
                    refine drG HT 11 rfl (rB1 ty_3) ?_
                    refine dGo ?_
                    refine e1G HT 9 rfl ?_
                    refine ci rfl rfl rfl (ref26_Of_s (db := db) (me := fr) hyes) ?_
                    refine e1G HT 12 rfl ?_
                    refine ci rfl rfl rfl (ref26_Find (rs := rtsDb db fr) (n := td) (by have := rtsDb_len db fr; omega)) ?_
                    refine efG HT 13 rfl (pF1 fd_49_0) ?_
                    refine efG HT 14 rfl pB ?_
                    refine ef HT 15 rfl pK ?_
                    refine ef HT 16 rfl pMa ?_
                    refine eE HT ?_
                    clear HT
                    refine aSeq ?_
                    refine aSeq ?_
                    refine aReg ?_
                    refine sp pMa ?_
                    refine oNil ?_
                    refine aBlock ?_
                    refine loopF (α := Nat) (kept := [(7, _), (8, _), (10, _), (11, _), (12, _), (13, _), (14, _)]) (fun i => i ≤ (goW (repM db) fr td 64).1.length) (fun i => [(15, .int i)]) (fun i => []) (fun i => (goW (repM db) fr td 64).1.length - i) 0 ?_ ⟨gInt rfl (by first | rfl | omega | simp), rfl, rfl, rfl, rfl, rfl, rfl, rfl, trivial⟩ (by repeat constructor) ?_
                    · skip
                      omega
                    · rintro i hi
                      refine aSeq ?_
                      refine aSeq ?_
                      refine aReg ?_
                      refine sp pM ?_
                      refine sp (pFb fd_86_0) ?_
                      refine sr (rB1 ty_25) ?_
                      refine sp (by first | exact pLm sl_25 | exact pLs sl_25 | exact pLv sl_25) ?_
                      refine sp pB ?_
                      refine oNil ?_
                      refine aCondDec rfl (fun c103 => ?_) (fun c103 => ?_)
                      · skip
                        refine aSkip ?_
                        refine aSeq ?_
                        refine aBlock ?_
                        refine aSeq ?_
                        refine aReg ?_
                        refine sp pMa ?_
                        refine oNil ?_
                        refine aBlock ?_
                        refine loopF (α := Nat) (kept := [(7, _), (8, _), (10, _), (11, _), (12, _), (13, _), (14, _), (15, _)]) (fun k => k ≤ i) (fun k => [(16, .int k)]) (fun k => []) (fun k => i - k) 0 ?_ ⟨gInt rfl (by first | rfl | omega | simp), rfl, rfl, rfl, rfl, rfl, rfl, rfl, rfl, trivial⟩ (by repeat constructor) ?_
                        · skip
                          omega
                        · rintro k hk
                          refine aSeq ?_
                          refine aSeq ?_
                          refine aReg ?_
                          refine sp pM ?_
                          refine sp pM ?_
                          refine sp pB ?_
                          refine oNil ?_
                          refine aCondDec rfl (fun c108 => ?_) (fun c108 => ?_)
                          · skip
                            refine aSkip ?_
                            refine aSeq ?_
                            refine aBlock ?_
                            refine aSeq ?_
                            obtain ⟨x, hx⟩ : ∃ z, (goW (repM db) fr td 64).1[i]? = some z := ⟨_, List.getElem?_eq_getElem (by omega)⟩
                            obtain ⟨y, hy⟩ : ∃ z, (goW (repM db) fr td 64).1[k]? = some z := ⟨_, List.getElem?_eq_getElem (by omega)⟩
                            refine aDrawT law44_HopAgrees_r20_t law44_HopAgrees_r20_b [] 11 #[false, false, false, false, false, false, false, false, false, false, false] (by kernel_rfl) rfl rfl (fun HT => ?_)
                            refine dp HT 0 rfl (pFb fd_86_0) ?_
                            refine dr HT 1 rfl (rB1 ty_25) ?_
                            refine dp HT 2 rfl pM ?_
                            first | refine dp HT 3 rfl (pIx es_25) ?_ | (refine obtDN 112 113 rfl rfl (by omega) (fun x114 hx114 => ?_); refine dp HT 3 rfl (pIs es_25 hx114) ?_) | (refine obtD 112 113 rfl rfl (by omega) (by omega) (fun x114 hx114 => ?_); refine dp HT 3 rfl (pIs es_25 hx114) ?_) | refine dp HT 3 rfl (pIo es_25) ?_
                            refine dr HT 4 rfl (by first | exact rS1 ty_3 | exact rB1 ty_3 | exact rAr ty_3 | exact rArL ty_3 | exact rArR2 ty_3) ?_
                            refine dp HT 5 rfl (pFb fd_86_0) ?_
                            refine dr HT 6 rfl (rB1 ty_25) ?_
                            refine dp HT 7 rfl pM ?_
                            first | refine dp HT 8 rfl (pIx es_25) ?_ | (refine obtDN 117 118 rfl rfl (by omega) (fun x119 hx119 => ?_); refine dp HT 8 rfl (pIs es_25 hx119) ?_) | (refine obtD 117 118 rfl rfl (by omega) (by omega) (fun x119 hx119 => ?_); refine dp HT 8 rfl (pIs es_25 hx119) ?_) | refine dp HT 8 rfl (pIo es_25) ?_
                            refine dr HT 9 rfl (by first | exact rS1 ty_3 | exact rB1 ty_3 | exact rAr ty_3 | exact rArL ty_3 | exact rArR2 ty_3) ?_
                            refine dp HT 10 rfl pB ?_
                            refine dE HT ?_
                            clear HT
                            refine aCondEq rfl (fun c121 => ?_) (fun c121 => ?_)
                            · skip
                              refine aSeq ?_
                              refine aReg ?_
                              refine sp pMa ?_
                              refine oNil ?_
                              refine aRet ?_
                              exfalso
                              have hxy : y = x := by assumption
                              have hkl := (List.getElem?_eq_some_iff.1 hy).1
                              have hxl := (List.getElem?_eq_some_iff.1 hx).1
                              have e1 := (List.getElem?_eq_some_iff.1 hy).2
                              have e2 := (List.getElem?_eq_some_iff.1 hx).2
                              have := (List.pairwise_iff_getElem.1 (List.nodup_iff_pairwise_ne.1 hf4)) k i hkl hxl (by omega)
                              rw [e1, e2] at this
                              exact this hxy
                            · skip
                              refine aSkip ?_
                              refine aReg ?_
                              refine sp pM ?_
                              refine sp pAd ?_
                              refine sp pMa ?_
                              refine oNil ?_
                              refine ⟨k + 1, ?_, by (try dsimp only); omega, ⟨gInt rfl (by first | rfl | omega | simp), rfl, rfl, rfl, rfl, rfl, rfl, rfl, rfl, trivial⟩, _, (by repeat constructor)⟩
                              omega
                          · skip
                            refine aExit rfl ?_
                            refine aReg ?_
                            refine sp pM ?_
                            refine sp pAd ?_
                            refine sp pMa ?_
                            refine oNil ?_
                            refine ⟨i + 1, ?_, by (try dsimp only); omega, ⟨gInt rfl (by first | rfl | omega | simp), rfl, rfl, rfl, rfl, rfl, rfl, rfl, trivial⟩, _, (by repeat constructor)⟩
                            omega
                      · skip
                        refine aExit rfl ?_
                        refine aSeq ?_
                        have hag := rep_agree hyes hal2
                        obtain ⟨p, hp⟩ : ∃ p, p = reachB db fr td := ⟨_, rfl⟩
                        rw [hf1, hf2, hf3, ← hp]
                        first
                          | (have hp1 := hp.trans (reach_eq (by assumption)); subst hp1)
                          | rw [← hp.trans (reach_ne (by assumption))]
                        refine aReg ?_
                        refine sp pM ?_
                        refine sp pM ?_
                        refine sp (pBl (by exact pEqBe bo_4) (show _ = true from by first | rfl | (cases p <;> rfl))) ?_
                        refine sp pM ?_
                        refine gp (pFb fd_86_1) ?_
                        refine gr (rB1 ty_3) ?_
                        refine gp pB ?_
                        refine gp pM ?_
                        refine gp (pBl (by exact pEqBe bo_4) (show _ = true from by first | rfl | (cases p <;> rfl))) ?_
                        refine sp pK ?_
                        refine sp pM ?_
                        refine gp (pFb fd_86_1) ?_
                        refine gr (rB1 ty_3) ?_
                        refine gp pB ?_
                        refine gp pM ?_
                        refine gp pNo ?_
                        refine gp (pBl (by exact pEqBe bo_4) (show _ = true from by first | rfl | (cases p <;> rfl))) ?_
                        refine sp pK ?_
                        refine sp pM ?_
                        refine gp pM ?_
                        refine gp pM ?_
                        refine gp (pBl (by exact pB) (show _ = true from by simp)) ?_
                        refine sp pK ?_
                        refine sp pM ?_
                        refine gp pM ?_
                        refine gp pM ?_
                        refine ga ?_
                        refine (cv rfl rfl rfl (lents_refl _) (hop_Agree (b := repM db) (l := al) (by omega) (by unfold repM; simp) hrs2) ?_).op
                        rw [hag]
                        refine sp pK ?_
                        refine sp pM ?_
                        refine ga ?_
                        refine (cv rfl rfl rfl (lents_refl _) law44_awake ?_).op
                        refine sp pK ?_
                        refine sp pMa ?_
                        refine oNil ?_
                        refine aRet ?_
                        refine finIs rfl ?_
                        rfl
end A
end Go.Proofs.Ytmcannmjielalaa
namespace Go.Proofs.Ytmcannmjielalaa.hopAgrees
open Go.ChangeShapes Go.WideShapes Go.ChangeAt Go.RowKit Go.Proofs.Ytmcannmjielalaa.A
open Go.ChangeMaps (open_string shut_string)
set_option linter.unusedVariables false
theorem own : ownKnob Try.prog.godebug = none := by kernel_rfl
theorem laidOut : laidOutB Try.prog = true := A.laidAll
theorem fInPlace : (Rows.hopAgreesRow.inPlace == Try.prog.inPlace 15) = true := by kernel_rfl
theorem fUnfollowed : (Rows.hopAgreesRow.unfollowed == Try.prog.unfollowed 15) = true := by kernel_rfl
theorem fRecurses : (Rows.hopAgreesRow.recurses == Try.prog.recurses 15) = true := by kernel_rfl
theorem fNamed : (Rows.hopAgreesRow.named == Try.prog.varsNamed 15) = true := by kernel_rfl
theorem closed : joinedFacts Try.prog 15 Try.f15 Rows.hopAgreesSpec Rows.hopAgreesRow = true := by
  unfold joinedFacts
  simp only [Bool.and_eq_true]
  refine ⟨⟨⟨⟨⟨⟨⟨⟨⟨⟨⟨⟨⟨⟨⟨⟨⟨⟨⟨⟨⟨⟨⟨⟨⟨⟨⟨⟨⟨⟨⟨?_, A.laidAll⟩, A.mapsAll⟩, ?_⟩, ?_⟩, ?_⟩, ?_⟩, ?_⟩, ?_⟩, fInPlace⟩, fUnfollowed⟩, fRecurses⟩, fNamed⟩, ?_⟩, ?_⟩, ?_⟩, ?_⟩, ?_⟩, ?_⟩, ?_⟩, ?_⟩, ?_⟩, ?_⟩, ?_⟩, A.stopsAll⟩, A.mayE⟩, by rw [A.lifF]; kernel_rfl⟩, by rw [A.mkC]; kernel_rfl⟩, ?_⟩, ?_⟩, ?_⟩, ?_⟩
  all_goals kernel_rfl
set_option maxRecDepth 100000 in
theorem lifted (os : Os) (started : os.Started) (H : Type) (enc : TypeId × Value → H) :
    ReturnsInHanded {} Try.checked os 15 .any (Rows.hopAgreesSpec.pre6 enc Try.prog Try.f15 Rows.hopAgreesRow.domain false) (Rows.hopAgreesSpec.post enc Try.prog Try.f15 false true false false) := by
  refine returnsInHanded_of_change_sized (C := Try.checked) own started (by kernel_rfl) Try.func15
    (ChangeSpec.witness6 (enc := enc) (C := Try.checked) false ⟨#[], #[.slice none 0 0, .int .u8 0, .agg #[.int .i64 0, .int .i64 0, .int .i64 0]], []⟩ 8 (by kernel_rfl) (by kernel_rfl) (by kernel_rfl) (by kernel_rfl)) ?_
  intro W base args ds gs before hval0 hW hcnd hsz0 _
  have hval : ∀ (j : Nat) t v, Try.f15.params[j]? = some t → args[j]? = some v → Value.okWide Try.prog W .any base t v := hval0
  have hW' := hW
  obtain ⟨p, q, hA0, hV, rfl, hfz, hnd⟩ := hW
  have hA : DataW.TrodAll enc Try.prog W 0 (fun _ => true) true Try.f15.params.toList args.toList ds p := hA0
  rw [Try.params15] at hA hval
  obtain ⟨v0, vs0, d0, ds0, p0, q0, hargs, rfl, rfl, h0, r0⟩ := trodAll_cons hA
  obtain ⟨v1, vs1, d1, ds1, p1, q1, rfl, rfl, rfl, h1, r1⟩ := trodAll_cons r0
  obtain ⟨v2, vs2, d2, ds2, p2, q2, rfl, rfl, rfl, h2, r2⟩ := trodAll_cons r1
  obtain ⟨rfl, rfl, rfl⟩ := trodAll_nil r2
  obtain rfl : args = #[v0, v1, v2] := by cases args; simp_all
  obtain ⟨rfl, rfl⟩ := trodVars_none hV
  have k0 := h0
  have lt0 : ∀ x ∈ p0, x.block < W.heap.size := by obtain ⟨m, hm⟩ := k0; exact DataW.trod_lt m _ _ _ hm
  have one0 : v0.oneCell' = true := by obtain ⟨_, _, _, rfl⟩ := okWide_slice Try.underlying55 (hval 0 55 v0 rfl rfl); rfl
  obtain ⟨a0, w0, rep0⟩ := argOne (opSlice Try.underlying55 (by kernel_rfl) (by decide) op_Lsa) one0 h0
  have k1 := h1
  have lt1 : ∀ x ∈ p1, x.block < W.heap.size := by obtain ⟨m, hm⟩ := k1; exact DataW.trod_lt m _ _ _ hm
  have one1 : v1.oneCell' = true := by obtain ⟨_, rfl⟩ := okWide_int Try.underlying5 (hval 1 5 v1 rfl rfl); rfl
  obtain ⟨a1, w1, rep1⟩ := argOne (opInt Try.underlying5) one1 h1
  have k2 := h2
  have lt2 : ∀ x ∈ p2, x.block < W.heap.size := by obtain ⟨m, hm⟩ := k2; exact DataW.trod_lt m _ _ _ hm
  obtain ⟨cs2, rfl⟩ := okWide_aggS Try.underlying83 (hval 2 83 v2 rfl rfl)
  obtain ⟨a2, w2, rep2⟩ := argAgg op_Trip h2
  refine (law_calls (law44_HopAgrees (db := a0) (nd := a1) (fr := a2.1) (td := a2.2.1) (hops := a2.2.2) (u8_range w1).1 (u8_range w1).2 w0.2) (reps_cons rep0 (reps_cons rep1 (reps_cons rep2 reps_nil)))).mono fun e W' ⟨he, bel⟩ => ?_
  subst he
  exact ⟨_, rfl, _, _, _, [], _, [], hW', trodAll_mk1 (shut_bool Try.underlying4 _), (trodAll_cons_mk (Below.trod laidOut (by kernel_rfl) (of_decide_eq_true (by kernel_rfl)) k0 bel lt0) (trodAll_cons_mk (Below.trod laidOut (by kernel_rfl) (of_decide_eq_true (by kernel_rfl)) k1 bel lt1) (trodAll_cons_mk (Below.trod laidOut (by kernel_rfl) (of_decide_eq_true (by kernel_rfl)) k2 bel lt2) trodAll_mk0))), rfl, bel.frame _, fun h => by cases h⟩
theorem over : Rows.hopAgreesRow.holds Try.pinned (OpenSpec.ofChange Rows.hopAgreesSpec) :=
  OpenClaim.holds_of_wide 15 Try.f15 rfl rfl rfl rfl rfl rfl rfl ⟨rfl, rfl, rfl, rfl, rfl⟩ rfl rfl rfl rfl rfl (by kernel_rfl) Try.func15 closed
    (of_decide_eq_true (by kernel_rfl)) (by unfold Func.isWrapper; first | (rw [if_pos (by decide +kernel)]; kernel_rfl) | (rw [if_neg (by decide +kernel)]; exact ⟨rfl, rfl⟩))
    (fun os started H enc _ => lifted os started H enc)
theorem proved : Rows.HopAgreesSaid := over
#print axioms proved
end Go.Proofs.Ytmcannmjielalaa.hopAgrees
