/- Whatever the input, waymarklaw44.HopGoes returns true, and each argument reads as it did. -/
import Derived.KernelRfl
import Derived.Test.YtmcannmjielalaaProg
import Derived.Test.YtmcannmjielalaaS13HopGoes
set_option linter.unusedVariables false
set_option linter.unusedSimpArgs false
namespace Go.Proofs.Ytmcannmjielalaa
namespace A
theorem fd_83_0 : fieldOf Try.prog 83 0 = some (0, 1, false) := by kernel_rfl
theorem fd_83_1 : fieldOf Try.prog 83 1 = some (1, 1, false) := by kernel_rfl
theorem fd_83_2 : fieldOf Try.prog 83 2 = some (2, 1, false) := by kernel_rfl
theorem st_138 : structPlaces Try.prog 138 = some [(0, 1), (1, 1)] := by kernel_rfl
theorem us_55 : Try.prog.underlying 55 = some (.slice 141) := by kernel_rfl
theorem us_81 : Try.prog.underlying 81 = some (.slice 55) := by kernel_rfl
theorem ze_55 : zeroOf Try.prog 55 = some (.slice none 0 0) := by kernel_rfl
def pairD : List Lsa := [⟨1, 1, [⟨2, 3⟩]⟩, ⟨2, 1, [⟨1, 5⟩]⟩]
def pairB : List (List Lsa) := [pairD, pairD]
theorem pair_go : goW pairB 1 2 9 = ([1, 2], 1) := by decide +kernel
theorem pair_sum : sumW pairB 1 2 9 = 3 := by decide +kernel
theorem pair_cos : cosW pairB 1 2 9 = 3 := by decide +kernel
theorem pair_ok : okW pairB 1 2 9 = true := by decide +kernel
theorem pair_agree : agreeM pairB [1, 2] = true := by decide +kernel
theorem pair_len : ∀ x ∈ pairB, x.length < 9223372036854775807 := by decide
theorem pair_len2 : ∀ x ∈ pairB, x.length < 9223372036854775807 ∧ ∀ y ∈ x, y.ls.length < 9223372036854775807 := by decide
/- waymarklaw44.pair -/
set_option maxRecDepth 100000 in
set_option maxHeartbeats 400000 in
theorem law44_pair  : Triple Try.prog 155 [] [] (Is (.sl 3 (pairD.map lsaC)) []) := by
  refine triple_of Try.func155 rfl (by kernel_rfl) rfl (by simp) ?_
  refine aSeq ?_
  refine aReg ?_
  refine sp pMa ?_
  refine oNil ?_
  refine aSeq ?_
  refine aReg ?_
  refine sp (pBuild rfl st_138 ze_138 rfl rfl rfl rfl) ?_
  refine sq ?_
  refine qLit (l := [_]) rfl rfl (by decide) us_139 ty_138 ze_138 rfl (by decide) (by decide) rfl rfl rfl (fun b2 => ?_)
  refine sp (pBuild rfl st_141 ze_141 rfl rfl rfl rfl) ?_
  refine sp (pBuild rfl st_138 ze_138 rfl rfl rfl rfl) ?_
  refine sq ?_
  refine qLit (l := [_]) rfl rfl (by decide) us_139 ty_138 ze_138 rfl (by decide) (by decide) rfl rfl rfl (fun b5 => ?_)
  refine sp (pBuild rfl st_141 ze_141 rfl rfl rfl rfl) ?_
  refine sq ?_
  refine qLit (l := [_, _]) rfl rfl (by decide) us_55 ty_141 ze_141 rfl (by decide) (by decide) rfl rfl rfl (fun b7 => ?_)
  refine sp pMa ?_
  refine oNil ?_
  refine aWeak (weak_deep (k := 0) (b := .sl 3 (pairD.map lsaC)) rfl (.cons .hd (.cons .hd (.cons .hd .nil))) (by repeat constructor)) ?_
  refine aRet ?_
  refine finIs rfl rfl
/- waymarklaw44.awake -/
set_option maxRecDepth 100000 in
set_option maxHeartbeats 400000 in
theorem law44_awake  : Triple Try.prog 75 [] [] (Is (.v (.bool true)) []) := by
  refine triple_of Try.func75 rfl (by kernel_rfl) rfl (by simp) ?_
  refine aSeq ?_
  refine aReg ?_
  refine sp pMa ?_
  refine oNil ?_
  refine aSeq ?_
  refine aReg ?_
  refine sq ?_
  refine ci rfl rfl rfl law44_pair ?_
  refine sq ?_
  refine ci rfl rfl rfl law44_pair ?_
  refine sq ?_
  refine qLit (l := [_, _]) rfl rfl (by decide) us_81 ty_55 ze_55 rfl (by decide) (by decide) rfl rfl rfl (fun b8 => ?_)
  refine sp pMa ?_
  refine oNil ?_
  refine aSeq ?_
  refine aWeak (weak_settle (k := 1) rfl (by repeat constructor) (by first | rfl | (simp; done) | (simp; omega) | (simp_all; done))) ?_
  refine aReg ?_
  refine sp pM ?_
  refine sq ?_
  refine ci rfl rfl rfl (hop_Go_s (b := pairB) (fr := 1) (td := 2) (hops := 9) (by decide) pair_len) ?_
  rw [pair_go]
  refine sq ?_
  refine qAlloc rfl rfl (by decide) ze_86 rfl (fun b2 => ?_)
  refine sa ?_
  refine oStW rfl rfl rfl rfl (by repeat constructor) ty_86 ?_
  refine oNil ?_
  refine aSeq ?_
  refine aReg ?_
  refine sp pM ?_
  refine sq ?_
  refine ci rfl rfl rfl (hop_Stretch (b := pairB) (fr := 1) (td := 2) (hops := 9) (by decide) pair_len) ?_
  rw [pair_sum, pair_cos, pair_ok]
  refine sp pM ?_
  refine sp pX ?_
  refine sp pX ?_
  refine sp pX ?_
  refine sp pMa ?_
  refine sp pMa ?_
  refine sp pMa ?_
  refine oNil ?_
  refine aSeq ?_
  refine aReg ?_
  refine sp (pFb fd_86_1) ?_
  refine sr (rB1 ty_3) ?_
  refine sp pB ?_
  refine sp pM ?_
  refine gp (pFb fd_86_0) ?_
  refine gr (rB1 ty_25) ?_
  refine gp (by first | exact pLm sl_25 | exact pLs sl_25 | exact pLv sl_25) ?_
  refine gp pB ?_
  refine sp pK ?_
  refine sp pM ?_
  refine gp pM ?_
  refine sp pK ?_
  refine sp pM ?_
  refine gp pM ?_
  refine gp pB ?_
  refine sp pK ?_
  refine sp pM ?_
  refine gp pM ?_
  refine gp pB ?_
  refine sp pK ?_
  refine sp pM ?_
  refine gp pM ?_
  refine ga ?_
  refine (qLit (l := [_, _]) rfl rfl (by decide) us_25 ty_3 ze_3 rfl (by decide) (by decide) rfl rfl rfl (fun b39 => ?_)).op
  refine ga ?_
  refine (cv rfl rfl rfl (by repeat (first | exact .nil | refine .cons (.sl (by repeat (first | exact List.mem_cons_self | apply List.mem_cons_of_mem)) (by first | rfl | simp)) ?_ | refine .cons (.same _) ?_)) (hop_Agree (b := pairB) (l := [1, 2]) (by decide) (by decide) pair_len2) ?_).op
  rw [pair_agree]
  refine sp pK ?_
  refine sp pMa ?_
  refine oNil ?_
  refine aRet ?_
  refine finIs rfl ?_
  rfl
/- waymarklaw44.light -/
set_option maxRecDepth 100000 in
set_option maxHeartbeats 400000 in
theorem law44_light {b : List (List Lsa)} (hbl : b.length ≤ 9223372036854775807) : Triple Try.prog 74 [.sl 1 (b.map basC)] [] (Is (.v (.bool (lightM b))) []) := by
  refine triple_of Try.func74 rfl (by kernel_rfl) rfl (by simp) ?_
  refine aSeq ?_
  refine aReg ?_
  refine sp pMa ?_
  refine oNil ?_
  refine aSeq ?_
  refine aSeq ?_
  refine aReg ?_
  refine sp pMa ?_
  refine oNil ?_
  refine aBlock ?_
  refine loopF (α := Nat) (kept := [(0, _)]) (fun i => i ≤ b.length ∧ i ≤ 7 ∧ ∀ y ∈ b.take i, fewB y = true) (fun i => [(3, .int i)]) (fun i => []) (fun i => b.length - i) 0 ?_ ⟨gInt rfl (by first | rfl | omega | simp), rfl, trivial⟩ (by repeat constructor) ?_
  · skip
    exact ⟨by omega, by omega, fun y hy => by simp at hy⟩
  · rintro i ⟨hi, hi7, hv⟩
    refine aSeq ?_
    refine aSeq ?_
    refine aReg ?_
    refine sp pM ?_
    refine sp pM ?_
    refine sp (by first | exact pLm sl_81 | exact pLs sl_81) ?_
    refine sp pB ?_
    refine sp pM ?_
    refine oSplitDec 8 rfl (fun c8 => ?_) (fun c8 => ?_)
    · skip
      refine gp pM ?_
      refine gp pB ?_
      refine sp pK ?_
      refine oNil ?_
      refine aCondDec rfl (fun c11 => ?_) (fun c11 => ?_)
      · skip
        refine aSkip ?_
        refine aSeq ?_
        refine aBlock ?_
        refine aSeq ?_
        obtain ⟨x, hx⟩ : ∃ z, b[i]? = some z := ⟨_, List.getElem?_eq_getElem (by omega)⟩
        refine aReg ?_
        refine sp pM ?_
        refine sp pM ?_
        first | refine sp (pIx es_81) ?_ | (refine obtSN 14 15 rfl rfl (by omega) (fun x16 hx16 => ?_); refine sp (pIs es_81 hx16) ?_) | (refine obtS 14 15 rfl rfl (by omega) (by omega) (fun x16 hx16 => ?_); refine sp (pIs es_81 hx16) ?_) | refine sp (pIo es_81) ?_
        refine sr (rS1 ty_55) ?_
        refine sp (by first | exact pLm sl_55 | exact pLs sl_55 | exact pLv sl_55) ?_
        refine sp pB ?_
        refine sp pM ?_
        refine oSplitDec 20 rfl (fun c20 => ?_) (fun c20 => ?_)
        · skip
          refine gf ?_
          refine gf ?_
          refine gf ?_
          refine gf ?_
          refine gf ?_
          refine gf ?_
          refine sp pK ?_
          refine oNil ?_
          refine aCondT rfl ?_
          refine aSeq ?_
          refine aReg ?_
          refine sp pMa ?_
          refine oNil ?_
          refine aRet ?_
          refine finIs rfl ?_
          have hbad : lightM b = false := by
            refine light_bad (List.mem_of_getElem? hx) ?_
            first
              | exact few_bad1 (by omega)
              | exact few_bad2 (by assumption)
          rw [hbad]
          rfl
        · skip
          refine gp pM ?_
          refine gp pM ?_
          first | refine gp (pIx es_81) ?_ | (refine obtSN 21 22 rfl rfl (by omega) (fun x23 hx23 => ?_); refine gp (pIs es_81 hx23) ?_) | (refine obtS 21 22 rfl rfl (by omega) (by omega) (fun x23 hx23 => ?_); refine gp (pIs es_81 hx23) ?_) | refine gp (pIo es_81) ?_
          refine gr (rS1 ty_55) ?_
          refine ga ?_
          refine (cv rfl rfl rfl (lents_refl _) (law19_Light_v (db := x)) ?_).op
          refine gp pNo ?_
          refine sp pK ?_
          refine oNil ?_
          refine aCondNot rfl (fun c27 => ?_) (fun c27 => ?_)
          · skip
            refine aSeq ?_
            refine aReg ?_
            refine sp pMa ?_
            refine oNil ?_
            refine aRet ?_
            refine finIs rfl ?_
            have hbad : lightM b = false := by
              refine light_bad (List.mem_of_getElem? hx) ?_
              first
                | exact few_bad1 (by omega)
                | exact few_bad2 (by assumption)
            rw [hbad]
            rfl
          · skip
            refine aSkip ?_
            refine aReg ?_
            refine sp pM ?_
            refine sp pAd ?_
            refine sp pMa ?_
            refine oNil ?_
            refine ⟨i + 1, ?_, by (try dsimp only); omega, ⟨gInt rfl (by first | rfl | omega | simp), rfl, trivial⟩, _, (by repeat constructor)⟩
            refine ⟨by omega, by omega, fun y hy => ?_⟩
            rw [take_step hx] at hy
            rcases List.mem_append.1 hy with hy | hy
            · exact hv y hy
            · rw [List.mem_singleton.1 hy]; exact few_good (by omega) (by assumption)
      · skip
        refine aExit rfl ?_
        refine aSeq ?_
        refine aReg ?_
        refine sp pM ?_
        refine sp (by first | exact pLm sl_81 | exact pLs sl_81) ?_
        refine sp pB ?_
        refine sp pMa ?_
        refine oNil ?_
        refine aRet ?_
        refine finIs rfl ?_
        rw [light_end hi hv (by omega)]
        simp [retOf]
        omega
    · skip
      refine gf ?_
      refine gf ?_
      refine sp pK ?_
      refine oNil ?_
      refine aCondF rfl ?_
      refine aExit rfl ?_
      refine aSeq ?_
      refine aReg ?_
      refine sp pM ?_
      refine sp (by first | exact pLm sl_81 | exact pLs sl_81) ?_
      refine sp pB ?_
      refine sp pMa ?_
      refine oNil ?_
      refine aRet ?_
      refine finIs rfl ?_
      rw [light_end hi hv (by omega)]
      simp [retOf]
      omega
/- waymarklaw44.HopGoes -/
def law44_HopGoes_r12_T : Bool × List (List Nat × List Nat) := (true, [([], []), ([0], [0]), ([1], [1]), ([1], [1]), ([1], [1]), ([3, 4, 1, 1], [1, 3, 4]), ([2, 5, 1], [1, 2, 5]), ([1, 6], [1, 6]), ([7, 5], [7]), ([8], [8]), ([8], [8]), ([8], [8]), ([11, 8], [8, 11]), ([10, 12, 8, 8], [8, 10, 12]), ([8], [8]), ([14, 8], [8, 14]), ([13, 15, 13, 8], [8, 13, 15]), ([8], [8]), ([17, 8], [8, 17]), ([16, 18, 16, 8], [8, 16, 18]), ([19, 8], [8, 19]), ([9, 20, 8], [8, 9, 20]), ([8, 21], [8, 21]), ([22, 19], [22]), ([23, 23], [23]), ([23, 24], [23, 24]), ([25, 24, 0, 1, 2, 3, 4, 5, 6, 7, 8, 9, 10, 11, 12, 13, 14, 15, 16, 17, 18, 19, 20, 21, 22, 23, 24, 25], [25])])
def law44_HopGoes_r12_B : List Nat := [0, 1, 3, 3, 3, 27, 63, 127, 255, 511, 511, 511, 2559, 7679, 511, 16895, 65023, 511, 131583, 523775, 1048063, 2097151, 4194303, 8388607, 16777215, 33554431, 67108863]
theorem law44_HopGoes_r12_t : Go.Proofs.YtmcannmjielalaaW.PrintLast.rtab .any (Go.Proofs.YtmcannmjielalaaW.PrintLast.opsOf Try.f14 12) = law44_HopGoes_r12_T := by kernel_rfl
theorem law44_HopGoes_r12_b : Go.Proofs.YtmcannmjielalaaW.PrintLast.waitsOk law44_HopGoes_r12_T.2 law44_HopGoes_r12_B = true := by kernel_rfl
set_option maxRecDepth 100000 in
set_option maxHeartbeats 2000000 in
theorem law44_HopGoes {b : List (List Lsa)} {fr td hops : Int} (hbl : b.length ≤ 9223372036854775807) : Triple Try.prog 14 [.sl 1 (b.map basC), .agg [.int fr, .int td, .int hops]] [] (Is (.v (.bool true)) []) := by
  refine triple_of Try.func14 rfl (by kernel_rfl) rfl (by simp) ?_
  refine aSeq ?_
  refine aReg ?_
  refine sq ?_
  refine qBox rfl rfl (by decide) rfl rfl (fun b3 => ?_)
  refine sp pMa ?_
  refine oNil ?_
  refine aSeq ?_
  refine aSeq ?_
  refine aReg ?_
  refine sp pM ?_
  refine sq ?_
  refine cv rfl rfl rfl (lents_refl _) (law44_light (b := b) hbl) ?_
  refine sp pNo ?_
  refine sp pM ?_
  refine oSplitNot 14 rfl (fun c14 => ?_) (fun c14 => ?_)
  · skip
    refine gf ?_
    refine gf ?_
    refine gf ?_
    refine sp pK ?_
    refine oNil ?_
    refine aCondT rfl ?_
    refine aSeq ?_
    refine aReg ?_
    refine sq ?_
    refine cv rfl rfl rfl (lents_refl _) law44_awake ?_
    refine sp pMa ?_
    refine oNil ?_
    refine aRet ?_
    refine finIs rfl ?_
    rfl
  · skip
    refine gp (pFb fd_83_2) ?_
    refine gr (rB1 ty_3) ?_
    refine gp pB ?_
    refine sp pK ?_
    refine oNil ?_
    refine aCondDec rfl (fun c18 => ?_) (fun c18 => ?_)
    · skip
      refine aSeq ?_
      refine aReg ?_
      refine sq ?_
      refine cv rfl rfl rfl (lents_refl _) law44_awake ?_
      refine sp pMa ?_
      refine oNil ?_
      refine aRet ?_
      refine finIs rfl ?_
      rfl
    · skip
      refine aSkip ?_
      refine aSeq ?_
      have hlt := light_yes (b := b) (by first | assumption | simp_all)
      have hb4 : ∀ x ∈ b, x.length ≤ 4000 ∧ ∀ y ∈ x, y.ls.length ≤ 4000 := fun x hx => ⟨by have := (hlt.2 x hx).1; omega, fun y hy => by have := (hlt.2 x hx).2 y hy; omega⟩
      have hbs : ∀ x ∈ b, x.length < 9223372036854775807 := fun x hx => by have := (hlt.2 x hx).1; omega
      have hWl := goW_len b fr td hops
      refine aReg ?_
      refine sp pM ?_
      refine sp (pFb fd_83_0) ?_
      refine sr (rB1 ty_3) ?_
      refine sp (pFb fd_83_1) ?_
      refine sr (rB1 ty_3) ?_
      refine sp (pFb fd_83_2) ?_
      refine sr (rB1 ty_3) ?_
      refine sq ?_
      refine ci rfl rfl rfl (hop_Go_s (b := b) (fr := fr) (td := td) (hops := hops) (by omega) hbs) ?_
      refine sq ?_
      refine qAlloc rfl rfl (by decide) ze_86 rfl (fun b5 => ?_)
      refine sa ?_
      refine oStW rfl rfl rfl rfl (by repeat constructor) ty_86 ?_
      refine oNil ?_
      refine aSeq ?_
      refine aReg ?_
      refine sp pM ?_
      refine sp (pFb fd_83_0) ?_
      refine sr (rB1 ty_3) ?_
      refine sp (pFb fd_83_1) ?_
      refine sr (rB1 ty_3) ?_
      refine sp (pFb fd_83_2) ?_
      refine sr (rB1 ty_3) ?_
      refine sq ?_
      refine ci rfl rfl rfl (hop_Stretch (b := b) (fr := fr) (td := td) (hops := hops) (by omega) hbs) ?_
      refine sp pM ?_
      refine sp pX ?_
      refine sp pX ?_
      refine sp pX ?_
      refine sp pMa ?_
      refine sp pMa ?_
      refine sp pMa ?_
      refine oNil ?_
      refine aSeq ?_
      refine aSeq ?_
      refine aReg ?_
      refine sp (pFb fd_83_0) ?_
      refine sr (rB1 ty_3) ?_
      refine sp pB ?_
      refine sp pM ?_
      refine oSplitDec 43 rfl (fun c43 => ?_) (fun c43 => ?_)
      · skip
        refine gf ?_
        refine gf ?_
        refine gf ?_
        refine sp pK ?_
        refine sp pM ?_
        refine gf ?_
        refine gf ?_
        refine gf ?_
        refine sp pK ?_
        refine sp pM ?_
        refine gf ?_
        refine gf ?_
        refine gf ?_
        refine sp pK ?_
        refine oNil ?_
        refine aCondT rfl ?_
        refine aSeq ?_
        have hno : (goW b fr td hops) = ([], 0) := by
          unfold goW
          rw [if_neg]
          intro h
          rw [Bool.and_eq_true, nodeB_iff, nodeB_iff] at h
          omega
        obtain ⟨ho1, ho2, ho3⟩ := okW_no (b := b) (fr := fr) (td := td) (hops := hops) (by rw [hno]; decide)
        rw [ho1, ho2, ho3, hno]
        refine aReg ?_
        refine sp (pFb fd_86_0) ?_
        refine sr (rB1 ty_25) ?_
        refine sp (by first | exact pLm sl_25 | exact pLs sl_25 | exact pLv sl_25) ?_
        refine sp pB ?_
        refine sp pM ?_
        refine gp (pFb fd_86_1) ?_
        refine gr (rB1 ty_3) ?_
        refine gp pB ?_
        refine sp pK ?_
        refine sp pM ?_
        refine gp pM ?_
        refine gp pNo ?_
        refine sp pK ?_
        refine sp pM ?_
        refine gp pM ?_
        refine gp pB ?_
        refine sp pK ?_
        refine sp pM ?_
        refine gp pM ?_
        refine gp pB ?_
        refine sp pK ?_
        refine sp pM ?_
        refine ga ?_
        refine (cv rfl rfl rfl (lents_refl _) law44_awake ?_).op
        refine sp pK ?_
        refine sp pMa ?_
        refine oNil ?_
        refine aRet ?_
        refine finIs rfl ?_
        rfl
      · skip
        refine gp (pFb fd_83_0) ?_
        refine gr (rB1 ty_3) ?_
        refine gp pB ?_
        refine sp pK ?_
        refine sp pM ?_
        refine oSplitDec 48 rfl (fun c48 => ?_) (fun c48 => ?_)
        · skip
          refine gf ?_
          refine gf ?_
          refine gf ?_
          refine sp pK ?_
          refine sp pM ?_
          refine gf ?_
          refine gf ?_
          refine gf ?_
          refine sp pK ?_
          refine oNil ?_
          refine aCondT rfl ?_
          refine aSeq ?_
          have hno : (goW b fr td hops) = ([], 0) := by
            unfold goW
            rw [if_neg]
            intro h
            rw [Bool.and_eq_true, nodeB_iff, nodeB_iff] at h
            omega
          obtain ⟨ho1, ho2, ho3⟩ := okW_no (b := b) (fr := fr) (td := td) (hops := hops) (by rw [hno]; decide)
          rw [ho1, ho2, ho3, hno]
          refine aReg ?_
          refine sp (pFb fd_86_0) ?_
          refine sr (rB1 ty_25) ?_
          refine sp (by first | exact pLm sl_25 | exact pLs sl_25 | exact pLv sl_25) ?_
          refine sp pB ?_
          refine sp pM ?_
          refine gp (pFb fd_86_1) ?_
          refine gr (rB1 ty_3) ?_
          refine gp pB ?_
          refine sp pK ?_
          refine sp pM ?_
          refine gp pM ?_
          refine gp pNo ?_
          refine sp pK ?_
          refine sp pM ?_
          refine gp pM ?_
          refine gp pB ?_
          refine sp pK ?_
          refine sp pM ?_
          refine gp pM ?_
          refine gp pB ?_
          refine sp pK ?_
          refine sp pM ?_
          refine ga ?_
          refine (cv rfl rfl rfl (lents_refl _) law44_awake ?_).op
          refine sp pK ?_
          refine sp pMa ?_
          refine oNil ?_
          refine aRet ?_
          refine finIs rfl ?_
          rfl
        · skip
          refine gp (pFb fd_83_1) ?_
          refine gr (rB1 ty_3) ?_
          refine gp pB ?_
          refine sp pK ?_
          refine sp pM ?_
          refine oSplitDec 53 rfl (fun c53 => ?_) (fun c53 => ?_)
          · skip
            refine gf ?_
            refine gf ?_
            refine gf ?_
            refine sp pK ?_
            refine oNil ?_
            refine aCondT rfl ?_
            refine aSeq ?_
            have hno : (goW b fr td hops) = ([], 0) := by
              unfold goW
              rw [if_neg]
              intro h
              rw [Bool.and_eq_true, nodeB_iff, nodeB_iff] at h
              omega
            obtain ⟨ho1, ho2, ho3⟩ := okW_no (b := b) (fr := fr) (td := td) (hops := hops) (by rw [hno]; decide)
            rw [ho1, ho2, ho3, hno]
            refine aReg ?_
            refine sp (pFb fd_86_0) ?_
            refine sr (rB1 ty_25) ?_
            refine sp (by first | exact pLm sl_25 | exact pLs sl_25 | exact pLv sl_25) ?_
            refine sp pB ?_
            refine sp pM ?_
            refine gp (pFb fd_86_1) ?_
            refine gr (rB1 ty_3) ?_
            refine gp pB ?_
            refine sp pK ?_
            refine sp pM ?_
            refine gp pM ?_
            refine gp pNo ?_
            refine sp pK ?_
            refine sp pM ?_
            refine gp pM ?_
            refine gp pB ?_
            refine sp pK ?_
            refine sp pM ?_
            refine gp pM ?_
            refine gp pB ?_
            refine sp pK ?_
            refine sp pM ?_
            refine ga ?_
            refine (cv rfl rfl rfl (lents_refl _) law44_awake ?_).op
            refine sp pK ?_
            refine sp pMa ?_
            refine oNil ?_
            refine aRet ?_
            refine finIs rfl ?_
            rfl
          · skip
            refine gp (pFb fd_83_1) ?_
            refine gr (rB1 ty_3) ?_
            refine gp pB ?_
            refine sp pK ?_
            refine oNil ?_
            refine aCondDec rfl (fun c57 => ?_) (fun c57 => ?_)
            · skip
              refine aSeq ?_
              have hno : (goW b fr td hops) = ([], 0) := by
                unfold goW
                rw [if_neg]
                intro h
                rw [Bool.and_eq_true, nodeB_iff, nodeB_iff] at h
                omega
              obtain ⟨ho1, ho2, ho3⟩ := okW_no (b := b) (fr := fr) (td := td) (hops := hops) (by rw [hno]; decide)
              rw [ho1, ho2, ho3, hno]
              refine aReg ?_
              refine sp (pFb fd_86_0) ?_
              refine sr (rB1 ty_25) ?_
              refine sp (by first | exact pLm sl_25 | exact pLs sl_25 | exact pLv sl_25) ?_
              refine sp pB ?_
              refine sp pM ?_
              refine gp (pFb fd_86_1) ?_
              refine gr (rB1 ty_3) ?_
              refine gp pB ?_
              refine sp pK ?_
              refine sp pM ?_
              refine gp pM ?_
              refine gp pNo ?_
              refine sp pK ?_
              refine sp pM ?_
              refine gp pM ?_
              refine gp pB ?_
              refine sp pK ?_
              refine sp pM ?_
              refine gp pM ?_
              refine gp pB ?_
              refine sp pK ?_
              refine sp pM ?_
              refine ga ?_
              refine (cv rfl rfl rfl (lents_refl _) law44_awake ?_).op
              refine sp pK ?_
              refine sp pMa ?_
              refine oNil ?_
              refine aRet ?_
              refine finIs rfl ?_
              rfl
            · skip
              refine aSkip ?_
              refine aSeq ?_
              have hgw : (goW b fr td hops) = goM b td hops.toNat fr := by
                unfold goW
                rw [if_pos (by rw [Bool.and_eq_true, nodeB_iff, nodeB_iff]; omega), show hopsN hops = hops.toNat by unfold hopsN; omega]
              refine aReg ?_
              refine sp pM ?_
              refine sp (pFb fd_83_0) ?_
              refine sr (rB1 ty_3) ?_
              refine sp (pFb fd_83_1) ?_
              refine sr (rB1 ty_3) ?_
              refine sp (pFb fd_83_2) ?_
              refine sr (rB1 ty_3) ?_
              refine sq ?_
              refine ci rfl rfl rfl (ref44_Go (b := b) (fr := fr) (td := td) (hops := hops) (by omega) (by omega) (by omega) (by omega) hb4) ?_
              rw [← hgw]
              refine sp pM ?_
              refine sp pX ?_
              refine sp pX ?_
              refine sp pMa ?_
              refine sp pMa ?_
              refine oNil ?_
              refine aSeq ?_
              refine aSeq ?_
              refine aReg ?_
              refine sp (pFb fd_86_0) ?_
              refine sr (rB1 ty_25) ?_
              refine sp pM ?_
              refine sq ?_
              refine cv rfl rfl rfl (lents_refl _) (ref24_Ints (by omega) (by omega)) ?_
              rw [show decide ((goW b fr td hops).1 = (goW b fr td hops).1) = true from decide_eq_true rfl]
              refine sp pNo ?_
              refine sp pM ?_
              refine gp (pFb fd_86_1) ?_
              refine gr (rB1 ty_3) ?_
              refine gp pM ?_
              refine gp (pBl (by exact pB) (show _ = false from by simp)) ?_
              refine sp pK ?_
              refine oNil ?_
              refine aCondF rfl ?_
              refine aSkip ?_
              refine aSeq ?_
              refine aSeq ?_
              refine aReg ?_
              refine sp pM ?_
              refine sp pB ?_
              refine oNil ?_
              refine aCondNe rfl (fun c105 => ?_) (fun c105 => ?_)
              · skip
                refine aSeq ?_
                obtain ⟨ho1, ho2, ho3⟩ := okW_no (b := b) (fr := fr) (td := td) (hops := hops) (by assumption)
                rw [ho1, ho2, ho3]
                refine aReg ?_
                refine sp pM ?_
                refine sp pNo ?_
                refine sp pM ?_
                refine gp pM ?_
                refine gp pB ?_
                refine sp pK ?_
                refine sp pM ?_
                refine gp pM ?_
                refine gp pB ?_
                refine sp pK ?_
                refine sp pM ?_
                refine ga ?_
                refine (cv rfl rfl rfl (lents_refl _) law44_awake ?_).op
                refine sp pK ?_
                refine sp pMa ?_
                refine oNil ?_
                refine aRet ?_
                refine finIs rfl ?_
                rfl
              · skip
                refine aSkip ?_
                refine aSeq ?_
                have hone : (goW b fr td hops).2 = 1 := by omega
                obtain ⟨ho1, ho2, ho3⟩ := okW_yes hone
                rw [ho1, ho2, ho3]
                refine aDrawT law44_HopGoes_r12_t law44_HopGoes_r12_b [] 27 #[false, false, false, false, false, false, false, false, false, false, false, false, false, false, false, false, false, false, false, false, false, false, false, false, false, false, false] (by kernel_rfl) rfl rfl (fun HT => ?_)
                refine dp HT 0 rfl pM ?_
                refine dp HT 1 rfl pM ?_
                refine dpG HT 2 rfl pM ?_
                refine dpG HT 3 rfl pM ?_
                refine dpG HT 4 rfl pM ?_
                refine dGo ?_
                refine e1G HT 5 rfl ?_
                refine cv rfl rfl rfl (lents_refl _) (ref44_Cost (b := b) (L := (goW b fr td hops).1) hWl (goW_rng (b := b) (fr := fr) (td := td) (hops := hops)) (by omega) hb4) ?_
                refine efG HT 6 rfl (pBl (by exact pB) (show _ = true from by simp)) ?_
                refine ef HT 7 rfl pK ?_
                refine ef HT 8 rfl pM ?_
                refine epG HT 9 rfl pM ?_
                refine epG HT 10 rfl pM ?_
                refine epG HT 11 rfl (pFb fd_83_0) ?_
                refine erG HT 12 rfl (rB1 ty_3) ?_
                refine epG HT 14 rfl (pFb fd_83_0) ?_
                refine erG HT 15 rfl (rB1 ty_3) ?_
                refine epG HT 17 rfl (pFb fd_83_1) ?_
                refine erG HT 18 rfl (rB1 ty_3) ?_
                refine e1G HT 13 rfl ?_
                refine ci rfl rfl rfl (ref44_Base (b := b) (n := fr) (by omega) (by omega) hb4) ?_
                refine e1G HT 16 rfl ?_
                refine ci rfl rfl rfl (ref26_Of_s (db := baseM b fr) (me := fr) (base_ok b fr)) ?_
                refine e1G HT 19 rfl ?_
                refine ci rfl rfl rfl (ref26_Find (rs := rtsDb (baseM b fr) fr) (n := td) (by have := rtsDb_len (baseM b fr) fr; omega)) ?_
                refine efG HT 20 rfl (pF1 fd_49_2) ?_
                refine efG HT 21 rfl (pBl (by exact pB) (show _ = true from by simp)) ?_
                refine ef HT 22 rfl pK ?_
                refine ef HT 23 rfl pM ?_
                refine e1G HT 24 rfl ?_
                refine cv rfl rfl rfl (lents_refl _) law44_awake ?_
                refine ef HT 25 rfl pK ?_
                refine ePure (i := 26) #[true, true, true, true, true, true, true, true, true, true, true, true, true, true, true, true, true, true, true, true, true, true, true, true, true, true, true] rfl rfl rfl (HT.any (by kernel_rfl)) (by exact pMa) (by decide) ?_
                refine eE HT ?_
                clear HT
                refine aRet ?_
                refine finIs rfl ?_
                rfl
end A
end Go.Proofs.Ytmcannmjielalaa
namespace Go.Proofs.Ytmcannmjielalaa.hopGoes
open Go.ChangeShapes Go.WideShapes Go.ChangeAt Go.RowKit Go.Proofs.Ytmcannmjielalaa.A
open Go.ChangeMaps (open_string shut_string)
set_option linter.unusedVariables false
theorem own : ownKnob Try.prog.godebug = none := by kernel_rfl
theorem laidOut : laidOutB Try.prog = true := A.laidAll
theorem fInPlace : (Rows.hopGoesRow.inPlace == Try.prog.inPlace 14) = true := by kernel_rfl
theorem fUnfollowed : (Rows.hopGoesRow.unfollowed == Try.prog.unfollowed 14) = true := by kernel_rfl
theorem fRecurses : (Rows.hopGoesRow.recurses == Try.prog.recurses 14) = true := by kernel_rfl
theorem fNamed : (Rows.hopGoesRow.named == Try.prog.varsNamed 14) = true := by kernel_rfl
theorem closed : joinedFacts Try.prog 14 Try.f14 Rows.hopGoesSpec Rows.hopGoesRow = true := by
  unfold joinedFacts
  simp only [Bool.and_eq_true]
  refine ⟨⟨⟨⟨⟨⟨⟨⟨⟨⟨⟨⟨⟨⟨⟨⟨⟨⟨⟨⟨⟨⟨⟨⟨⟨⟨⟨⟨⟨⟨⟨?_, A.laidAll⟩, A.mapsAll⟩, ?_⟩, ?_⟩, ?_⟩, ?_⟩, ?_⟩, ?_⟩, fInPlace⟩, fUnfollowed⟩, fRecurses⟩, fNamed⟩, ?_⟩, ?_⟩, ?_⟩, ?_⟩, ?_⟩, ?_⟩, ?_⟩, ?_⟩, ?_⟩, ?_⟩, ?_⟩, A.stopsAll⟩, A.mayE⟩, by rw [A.lifF]; kernel_rfl⟩, by rw [A.mkC]; kernel_rfl⟩, ?_⟩, ?_⟩, ?_⟩, ?_⟩
  all_goals kernel_rfl
set_option maxRecDepth 100000 in
theorem lifted (os : Os) (started : os.Started) (H : Type) (enc : TypeId × Value → H) :
    ReturnsInHanded {} Try.checked os 14 .any (Rows.hopGoesSpec.pre6 enc Try.prog Try.f14 Rows.hopGoesRow.domain false) (Rows.hopGoesSpec.post enc Try.prog Try.f14 false true false false) := by
  refine returnsInHanded_of_change_sized (C := Try.checked) own started (by kernel_rfl) Try.func14
    (ChangeSpec.witness6 (enc := enc) (C := Try.checked) false ⟨#[], #[.slice none 0 0, .agg #[.int .i64 0, .int .i64 0, .int .i64 0]], []⟩ 8 (by kernel_rfl) (by kernel_rfl) (by kernel_rfl) (by kernel_rfl)) ?_
  intro W base args ds gs before hval0 hW hcnd hsz0 _
  have hval : ∀ (j : Nat) t v, Try.f14.params[j]? = some t → args[j]? = some v → Value.okWide Try.prog W .any base t v := hval0
  have hW' := hW
  obtain ⟨p, q, hA0, hV, rfl, hfz, hnd⟩ := hW
  have hA : DataW.TrodAll enc Try.prog W 0 (fun _ => true) true Try.f14.params.toList args.toList ds p := hA0
  rw [Try.params14] at hA hval
  obtain ⟨v0, vs0, d0, ds0, p0, q0, hargs, rfl, rfl, h0, r0⟩ := trodAll_cons hA
  obtain ⟨v1, vs1, d1, ds1, p1, q1, rfl, rfl, rfl, h1, r1⟩ := trodAll_cons r0
  obtain ⟨rfl, rfl, rfl⟩ := trodAll_nil r1
  obtain rfl : args = #[v0, v1] := by cases args; simp_all
  obtain ⟨rfl, rfl⟩ := trodVars_none hV
  have k0 := h0
  have lt0 : ∀ x ∈ p0, x.block < W.heap.size := by obtain ⟨m, hm⟩ := k0; exact DataW.trod_lt m _ _ _ hm
  have one0 : v0.oneCell' = true := by obtain ⟨_, _, _, rfl⟩ := okWide_slice Try.underlying81 (hval 0 81 v0 rfl rfl); rfl
  obtain ⟨a0, w0, rep0⟩ := argOne op_Bases one0 h0
  have k1 := h1
  have lt1 : ∀ x ∈ p1, x.block < W.heap.size := by obtain ⟨m, hm⟩ := k1; exact DataW.trod_lt m _ _ _ hm
  obtain ⟨cs1, rfl⟩ := okWide_aggS Try.underlying83 (hval 1 83 v1 rfl rfl)
  obtain ⟨a1, w1, rep1⟩ := argAgg op_Trip h1
  refine (law_calls (law44_HopGoes (b := a0) (fr := a1.1) (td := a1.2.1) (hops := a1.2.2) w0) (reps_cons rep0 (reps_cons rep1 reps_nil))).mono fun e W' ⟨he, bel⟩ => ?_
  subst he
  exact ⟨_, rfl, _, _, _, [], _, [], hW', trodAll_mk1 (shut_bool Try.underlying4 _), (trodAll_cons_mk (Below.trod laidOut (by kernel_rfl) (of_decide_eq_true (by kernel_rfl)) k0 bel lt0) (trodAll_cons_mk (Below.trod laidOut (by kernel_rfl) (of_decide_eq_true (by kernel_rfl)) k1 bel lt1) trodAll_mk0)), rfl, bel.frame _, fun h => by cases h⟩
theorem over : Rows.hopGoesRow.holds Try.pinned (OpenSpec.ofChange Rows.hopGoesSpec) :=
  OpenClaim.holds_of_wide 14 Try.f14 rfl rfl rfl rfl rfl rfl rfl ⟨rfl, rfl, rfl, rfl, rfl⟩ rfl rfl rfl rfl rfl (by kernel_rfl) Try.func14 closed
    (of_decide_eq_true (by kernel_rfl)) (by unfold Func.isWrapper; first | (rw [if_pos (by decide +kernel)]; kernel_rfl) | (rw [if_neg (by decide +kernel)]; exact ⟨rfl, rfl⟩))
    (fun os started H enc _ => lifted os started H enc)
theorem proved : Rows.HopGoesSaid := over
#print axioms proved
end Go.Proofs.Ytmcannmjielalaa.hopGoes
