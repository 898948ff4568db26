/- What functions of the program compute: law43b -/
import Derived.Test.YtkgemkadebgeoaaBlaw43
import Derived.Test.YtkgemkadebgeoaaProg
import Derived.KernelRfl
set_option linter.unusedVariables false
set_option linter.unusedSimpArgs false
namespace Go.Proofs.Ytkgemkadebgeoaa
namespace A

theorem fd_115_0 : fieldOf Try.prog 115 0 = some (0, 1, false) := by kernel_rfl
theorem fd_115_1 : fieldOf Try.prog 115 1 = some (1, 1, false) := by kernel_rfl
theorem fd_115_2 : fieldOf Try.prog 115 2 = some (2, 1, false) := by kernel_rfl
theorem ty_113 : tyOf Try.prog 113 = some (1, false) := by kernel_rfl
theorem ty_26 : tyOf Try.prog 26 = some (1, false) := by kernel_rfl
/- waymarklaw43.FibMakes -/
def law43_FibMakes_r7_T : Bool × List (List Nat × List Nat) := (true, [([], []), ([], []), ([0, 1], [0, 1]), ([], []), ([3], [3]), ([], []), ([4, 5, 2], [4, 5]), ([2, 6, 0, 1, 2], [2]), ([6, 7, 0, 1, 2, 3, 4, 5, 6, 7], [6])])
def law43_FibMakes_r7_B : List Nat := [0, 0, 3, 0, 8, 0, 63, 127, 255]
theorem law43_FibMakes_r7_t : Go.Proofs.YtkgemkadebgeoaaW.PrintLast.rtab .any (Go.Proofs.YtkgemkadebgeoaaW.PrintLast.opsOf Try.f13 7) = law43_FibMakes_r7_T := by kernel_rfl
theorem law43_FibMakes_r7_b : Go.Proofs.YtkgemkadebgeoaaW.PrintLast.waitsOk law43_FibMakes_r7_T.2 law43_FibMakes_r7_B = true := by kernel_rfl
set_option maxRecDepth 100000 in
set_option maxHeartbeats 1000000 in
theorem law43_FibMakes {me : Int} {rs : List Rt} {cs os : List E42} {a : Nat} (ha : a < 2 ^ 32) (hb : ∀ e ∈ cs, e.b < 2 ^ 32) (hob : ∀ e ∈ os, e.b < 2 ^ 32) (h1 : rs.length ≤ 9223372036854775807) (h2 : cs.length ≤ 9223372036854775807) (h3 : os.length ≤ 9223372036854775807) : Triple Try.prog 13 [.int me, .agg [.sl 3 (rs.map rtC), .sl 3 (cs.map e42C), .sl 3 (os.map e42C)], u32 a] [] (Is (.v (.bool true)) []) := by
  refine triple_of Try.func13 rfl (by kernel_rfl) rfl (by simp) ?_
  refine aSeq ?_
  refine aReg ?_
  refine sq ?_
  refine qBox rfl rfl (by decide) rfl rfl (fun b4 => ?_)
  refine sp pMa ?_
  refine oNil ?_
  refine aSeq ?_
  refine aSeq ?_
  refine aReg ?_
  refine sp (pFb fd_115_0) ?_
  refine sr (rB1 ty_113) ?_
  refine sp (pFb fd_115_1) ?_
  refine sr (rB1 ty_26) ?_
  refine sq ?_
  refine cq rfl rfl rfl (law43_light h1 h2) ?_
  rintro _ _ ⟨v, rfl, rfl, hv⟩
  refine sp pNo ?_
  refine sp pM ?_
  refine oSplitNot 21 rfl (fun c21 => ?_) (fun c21 => ?_)
  · skip
    refine gf ?_
    refine gf ?_
    refine gf ?_
    refine gf ?_
    refine sp pK ?_
    refine oNil ?_
    refine aCondT rfl ?_
    refine aSeq ?_
    refine aReg ?_
    refine sq ?_
    refine cv rfl rfl rfl (lents_refl _) law43_awake ?_
    refine sp pMa ?_
    refine oNil ?_
    refine aRet ?_
    refine finIs rfl ?_
    rfl
  · skip
    refine gp (pFb fd_115_2) ?_
    refine gr (rB1 ty_26) ?_
    refine gp (by first | exact pLm sl_26 | exact pLs sl_26 | exact pLv sl_26) ?_
    refine gp pB ?_
    refine sp pK ?_
    refine oNil ?_
    refine aCondDec rfl (fun c26 => ?_) (fun c26 => ?_)
    · skip
      refine aSeq ?_
      refine aReg ?_
      refine sq ?_
      refine cv rfl rfl rfl (lents_refl _) law43_awake ?_
      refine sp pMa ?_
      refine oNil ?_
      refine aRet ?_
      refine finIs rfl ?_
      rfl
    · skip
      refine aSkip ?_
      refine aSeq ?_
      obtain ⟨hv1, hv2, hv3⟩ := hv (by simp_all)
      have hzv := nz_via (me := me) (cs := cs) hv3
      have hzn := nz_nd (me := me) (rs := rs) (cs := cs)
      refine aReg ?_
      refine sp pM ?_
      refine sp (pFb fd_115_0) ?_
      refine sr (rB1 ty_113) ?_
      refine sp (pFb fd_115_1) ?_
      refine sr (rB1 ty_26) ?_
      refine sa ?_
      first | refine coM rfl rfl rfl (fib_Make (me := me) hb (by omega) (by omega) hzv) (fun g33 k33 => ?_) | refine co rfl rfl rfl (fib_Make (me := me) hb (by omega) (by omega) hzv) (fun g33 k33 => ?_)
      refine sp pMa ?_
      refine oNil ?_
      refine aSeq ?_
      refine aWeak (weak_settle (k := 7) rfl (by repeat constructor) (by simp)) ?_
      rw [← ofE_map]
      refine aReg ?_
      refine sp pM ?_
      refine sp pM ?_
      refine sq ?_
      refine ci rfl rfl rfl (fib_Next (l := (tblF me rs cs Way.via).map ofE) (tblF_b hb hzv) ha (tblF_len hzv (by omega))) ?_
      refine sp pM ?_
      refine sp pX ?_
      refine sp pX ?_
      refine sp pMa ?_
      refine sp pMa ?_
      refine oNil ?_
      refine aSeq ?_
      refine aReg ?_
      refine sp (pFb fd_115_2) ?_
      refine sr (rB1 ty_26) ?_
      refine sp pM ?_
      refine sq ?_
      refine ci rfl rfl rfl (fib_Next (l := os) hob ha (by omega)) ?_
      refine sp pM ?_
      refine sp pX ?_
      refine sp pX ?_
      refine sp pMa ?_
      refine sp pMa ?_
      refine oNil ?_
      refine aSeq ?_
      refine aReg ?_
      refine sp pM ?_
      refine sp (pFb fd_115_0) ?_
      refine sr (rB1 ty_113) ?_
      refine sp (pFb fd_115_1) ?_
      refine sr (rB1 ty_26) ?_
      refine sq ?_
      refine ci rfl rfl rfl (ref43_Make true hb (by omega) (by omega)) ?_
      refine sp pMa ?_
      refine oNil ?_
      refine aSeq ?_
      rw [show tlV true = Way.via from rfl, ← ofE_map]
      refine aDrawT law43_FibMakes_r7_t law43_FibMakes_r7_b [] 9 #[false, false, false, false, false, false, false, false, false] (by kernel_rfl) rfl rfl (fun HT => ?_)
      refine dp HT 0 rfl pM ?_
      refine dp HT 1 rfl pM ?_
      refine dp HT 3 rfl (pFb fd_115_2) ?_
      refine dr HT 4 rfl (rB1 ty_26) ?_
      refine dp HT 5 rfl pM ?_
      refine dGo ?_
      refine e1 HT 2 rfl ?_
      refine ci rfl rfl rfl (ref43_Next (l := (tblF me rs cs Way.via).map ofE) (tblF_b hb hzv) ha (tblF_len hzv (by omega))) ?_
      refine e1 HT 6 rfl ?_
      refine ci rfl rfl rfl (ref43_Next (l := os) hob ha (by omega)) ?_
      refine ef HT 7 rfl pMa ?_
      refine ef HT 8 rfl pMa ?_
      refine eE HT ?_
      clear HT
      refine aSeq ?_
      rw [ofE_map]
      refine aReg ?_
      refine sp pM ?_
      refine sp pM ?_
      refine sq ?_
      refine ci rfl rfl rfl (ref42_Same (tblF me rs cs Way.via) (tblF me rs cs Way.via) (by have := tblF_len hzv (by omega); simp at this; omega) (by have := tblF_len hzv (by omega); simp at this; omega)) ?_
      refine sp (pBl (by exact pM) (show _ = true from by simp)) ?_
      refine gp pM ?_
      refine gp pM ?_
      refine gp (pBl (by exact pB) (show _ = true from by simp)) ?_
      refine sp pK ?_
      refine sp pM ?_
      refine gp pM ?_
      refine gp pM ?_
      refine gp pB ?_
      refine gp (pBl (by exact pEqBe bo_4) (show _ = true from by simp)) ?_
      refine sp pK ?_
      refine sp pM ?_
      refine gp pM ?_
      refine gp pM ?_
      refine gp (pBl (by exact pB) (show _ = true from by simp)) ?_
      refine sp pK ?_
      refine sp pM ?_
      refine gp pM ?_
      refine gp pM ?_
      refine gp pB ?_
      refine gp (pBl (by exact pEqBe bo_4) (show _ = true from by simp)) ?_
      refine sp pK ?_
      refine sp pM ?_
      refine ga ?_
      refine (cv rfl rfl rfl (lents_refl _) law43_awake ?_).op
      refine sp pK ?_
      refine sp pMa ?_
      refine oNil ?_
      refine aRet ?_
      refine finIs rfl ?_
      rfl

/- waymarklaw43.FibOwner -/
set_option maxRecDepth 100000 in
set_option maxHeartbeats 1000000 in
theorem law43_FibOwner {me : Int} {rs : List Rt} {cs os : List E42} {a : Nat} (ha : a < 2 ^ 32) (hb : ∀ e ∈ cs, e.b < 2 ^ 32) (hob : ∀ e ∈ os, e.b < 2 ^ 32) (h1 : rs.length ≤ 9223372036854775807) (h2 : cs.length ≤ 9223372036854775807) (h3 : os.length ≤ 9223372036854775807) : Triple Try.prog 14 [.int me, .agg [.sl 3 (rs.map rtC), .sl 3 (cs.map e42C), .sl 3 (os.map e42C)], u32 a] [] (Is (.v (.bool true)) []) := by
  refine triple_of Try.func14 rfl (by kernel_rfl) rfl (by simp) ?_
  refine aSeq ?_
  refine aReg ?_
  refine sq ?_
  refine qBox rfl rfl (by decide) rfl rfl (fun b4 => ?_)
  refine sp pMa ?_
  refine oNil ?_
  refine aSeq ?_
  refine aSeq ?_
  refine aReg ?_
  refine sp (pFb fd_115_0) ?_
  refine sr (rB1 ty_113) ?_
  refine sp (pFb fd_115_1) ?_
  refine sr (rB1 ty_26) ?_
  refine sq ?_
  refine cq rfl rfl rfl (law43_light h1 h2) ?_
  rintro _ _ ⟨v, rfl, rfl, hv⟩
  refine sp pNo ?_
  refine sp pM ?_
  refine oSplitNot 21 rfl (fun c21 => ?_) (fun c21 => ?_)
  · skip
    refine gf ?_
    refine gf ?_
    refine sp pK ?_
    refine sp pM ?_
    refine gf ?_
    refine gf ?_
    refine sp pK ?_
    refine oNil ?_
    refine aCondT rfl ?_
    refine aSeq ?_
    refine aReg ?_
    refine sq ?_
    refine cv rfl rfl rfl (lents_refl _) law43_awake ?_
    refine sp pMa ?_
    refine oNil ?_
    refine aRet ?_
    refine finIs rfl ?_
    first
      | rfl
      | exact absurd (hp4 (by assumption)) (by assumption)
      | exact absurd (hp5 (by assumption)) (by assumption)
      | (exfalso
         obtain rfl : i = cs.length := by omega
         rw [List.take_length, hp3] at hq
         subst hq
         contradiction)
  · skip
    refine gp pM ?_
    refine gp pB ?_
    refine sp pK ?_
    refine sp pM ?_
    refine oSplitDec 25 rfl (fun c25 => ?_) (fun c25 => ?_)
    · skip
      refine gf ?_
      refine gf ?_
      refine sp pK ?_
      refine oNil ?_
      refine aCondT rfl ?_
      refine aSeq ?_
      refine aReg ?_
      refine sq ?_
      refine cv rfl rfl rfl (lents_refl _) law43_awake ?_
      refine sp pMa ?_
      refine oNil ?_
      refine aRet ?_
      refine finIs rfl ?_
      first
        | rfl
        | exact absurd (hp4 (by assumption)) (by assumption)
        | exact absurd (hp5 (by assumption)) (by assumption)
        | (exfalso
           obtain rfl : i = cs.length := by omega
           rw [List.take_length, hp3] at hq
           subst hq
           contradiction)
    · skip
      refine gp pM ?_
      refine gp pB ?_
      refine sp pK ?_
      refine oNil ?_
      refine aCondDec rfl (fun c28 => ?_) (fun c28 => ?_)
      · skip
        refine aSeq ?_
        refine aReg ?_
        refine sq ?_
        refine cv rfl rfl rfl (lents_refl _) law43_awake ?_
        refine sp pMa ?_
        refine oNil ?_
        refine aRet ?_
        refine finIs rfl ?_
        first
          | rfl
          | exact absurd (hp4 (by assumption)) (by assumption)
          | exact absurd (hp5 (by assumption)) (by assumption)
          | (exfalso
             obtain rfl : i = cs.length := by omega
             rw [List.take_length, hp3] at hq
             subst hq
             contradiction)
      · skip
        refine aSkip ?_
        refine aSeq ?_
        obtain ⟨hv1, hv2, hv3⟩ := hv (by simp_all)
        have hzv := nz_via (me := me) (cs := cs) hv3
        have hzn := nz_nd (me := me) (rs := rs) (cs := cs)
        obtain ⟨hp1, hp2⟩ := owner_plain (me := me) (cs := cs) (a := a) hv3
        refine aReg ?_
        refine sp pM ?_
        refine sp (pFb fd_115_0) ?_
        refine sr (rB1 ty_113) ?_
        refine sp (pFb fd_115_1) ?_
        refine sr (rB1 ty_26) ?_
        refine sa ?_
        first | refine coM rfl rfl rfl (fib_Make (me := me) hb (by omega) (by omega) hzv) (fun g35 k35 => ?_) | refine co rfl rfl rfl (fib_Make (me := me) hb (by omega) (by omega) hzv) (fun g35 k35 => ?_)
        refine sp pMa ?_
        refine oNil ?_
        refine aSeq ?_
        refine aWeak (weak_settle (k := 7) rfl (by repeat constructor) (by simp)) ?_
        rw [← ofE_map]
        refine aReg ?_
        refine sp pM ?_
        refine sp pM ?_
        refine sq ?_
        refine ci rfl rfl rfl (fib_Next (l := (tblF me rs cs Way.via).map ofE) (tblF_b hb hzv) ha (tblF_len hzv (by omega))) ?_
        refine sp pM ?_
        refine sp pX ?_
        refine sp pX ?_
        refine sp pMa ?_
        refine sp pMa ?_
        refine oNil ?_
        refine aSeq ?_
        refine aReg ?_
        refine sp pM ?_
        refine sp (pFb fd_115_0) ?_
        refine sr (rB1 ty_113) ?_
        refine sp (pFb fd_115_1) ?_
        refine sr (rB1 ty_26) ?_
        refine sp pM ?_
        refine sq ?_
        refine ci rfl rfl rfl (fib_Owner hb (by omega) (by omega) hzn ha) ?_
        refine sp pM ?_
        refine sp pX ?_
        refine sp pX ?_
        refine sp pMa ?_
        refine sp pMa ?_
        refine oNil ?_
        refine aSeq ?_
        refine aReg ?_
        refine sp pM ?_
        refine sp (pFb fd_115_0) ?_
        refine sr (rB1 ty_113) ?_
        refine sp (pFb fd_115_1) ?_
        refine sr (rB1 ty_26) ?_
        refine sq ?_
        refine ci rfl rfl rfl (ref43_Make false hb (by omega) (by omega)) ?_
        rw [show tlV false = Way.nd from rfl, ← ofE_map]
        refine sp pM ?_
        refine sq ?_
        refine ci rfl rfl rfl (ref43_Next (l := (tblF me rs cs Way.nd).map ofE) (tblF_b hb hzn) ha (tblF_len hzn (by omega))) ?_
        refine sp pMa ?_
        refine oNil ?_
        refine aSeq ?_
        refine aSeq ?_
        refine aReg ?_
        refine sp pM ?_
        refine sp pM ?_
        refine sp (pBl (by exact pEqBn bo_4) (show _ = false from by simp [hp1])) ?_
        refine sp pM ?_
        refine gp pM ?_
        refine gp pM ?_
        refine gp (pBl (by exact pB) (show _ = false from by simp)) ?_
        refine sp pK ?_
        refine sp pM ?_
        refine gp pM ?_
        refine gp pM ?_
        refine gp pB ?_
        refine gp (pBl (by exact pEqBn bo_4) (show _ = false from by simp)) ?_
        refine sp pK ?_
        refine oNil ?_
        refine aCondF rfl ?_
        refine aSkip ?_
        refine aSeq ?_
        refine aSeq ?_
        refine aReg ?_
        refine sp pM ?_
        refine sp pNo ?_
        refine oNil ?_
        refine aCondNot rfl (fun c75 => ?_) (fun c75 => ?_)
        · skip
          refine aSeq ?_
          refine aReg ?_
          refine sq ?_
          refine cv rfl rfl rfl (lents_refl _) law43_awake ?_
          refine sp pMa ?_
          refine oNil ?_
          refine aRet ?_
          refine finIs rfl ?_
          first
            | rfl
            | exact absurd (hp4 (by assumption)) (by assumption)
            | exact absurd (hp5 (by assumption)) (by assumption)
            | (exfalso
               obtain rfl : i = cs.length := by omega
               rw [List.take_length, hp3] at hq
               subst hq
               contradiction)
        · skip
          refine aSkip ?_
          refine aSeq ?_
          have hne : sent ((tblF me rs cs Way.nd).map ofE) a ≠ 0 := by simp_all
          obtain ⟨hp3, hp4, hp5⟩ := hp2 hne
          refine aReg ?_
          refine sp pMa ?_
          refine oNil ?_
          refine aSeq ?_
          refine aSeq ?_
          refine aReg ?_
          refine sp pMa ?_
          refine oNil ?_
          refine aBlock ?_
          refine loopF (α := Nat × Bool) (kept := [(0, _), (2, _), (4, _), (8, _), (10, _)]) (fun (i, q) => i ≤ cs.length ∧ q = (cs.take i).any (pE (sent ((tblF me rs cs Way.nd).map ofE) a) a)) (fun (i, q) => [(14, .int i), (13, .v (.bool q))]) (fun (i, q) => []) (fun (i, q) => cs.length - i) (0, false) ?_ ⟨gInt rfl (by first | rfl | omega | simp), rfl, rfl, rfl, rfl, rfl, rfl, trivial⟩ (by repeat constructor) ?_
          · skip
            exact ⟨by omega, rfl⟩
          · rintro ⟨i, q⟩ ⟨hi, hq⟩
            refine aSeq ?_
            refine aSeq ?_
            refine aReg ?_
            refine sp pM ?_
            refine sp (pFb fd_115_1) ?_
            refine sr (rB1 ty_26) ?_
            refine sp (by first | exact pLm sl_26 | exact pLs sl_26 | exact pLv sl_26) ?_
            refine sp pB ?_
            refine oNil ?_
            refine aCondDec rfl (fun c81 => ?_) (fun c81 => ?_)
            · skip
              refine aSkip ?_
              refine aSeq ?_
              refine aBlock ?_
              obtain ⟨e, he⟩ : ∃ e, cs[i]? = some e := ⟨_, List.getElem?_eq_getElem (by omega)⟩
              refine aReg ?_
              refine sp pM ?_
              refine sp pM ?_
              refine oSplit 85 rfl (fun c85 => ?_) (fun c85 => ?_)
              · skip
                refine gf ?_
                refine gf ?_
                refine gf ?_
                refine gf ?_
                refine gf ?_
                refine gf ?_
                refine gf ?_
                refine gf ?_
                refine gf ?_
                refine gf ?_
                refine gf ?_
                refine gf ?_
                refine gf ?_
                refine gf ?_
                refine gf ?_
                refine gf ?_
                refine gf ?_
                refine gf ?_
                refine gf ?_
                refine gf ?_
                refine gf ?_
                refine gf ?_
                refine gf ?_
                refine gf ?_
                refine gf ?_
                refine gf ?_
                refine gf ?_
                refine sp pK ?_
                refine sp pMa ?_
                refine oNil ?_
                refine aReg ?_
                refine sp pM ?_
                refine sp pAd ?_
                refine sp pMa ?_
                refine oNil ?_
                refine ⟨(i + 1, _), ?_, by (try dsimp only); omega, ⟨gInt rfl (by first | rfl | omega | simp), rfl, rfl, rfl, rfl, rfl, rfl, trivial⟩, _, (by repeat constructor)⟩
                refine ⟨by omega, ?_⟩
                rw [take_step he, List.any_append, ← hq]
                simp_all [pE]
              · skip
                refine gp (pFb fd_115_1) ?_
                refine gr (rB1 ty_26) ?_
                refine gp pM ?_
                first | refine gp (pIx es_26) ?_ | (refine obtSN 87 88 rfl rfl (by omega) (fun x89 hx89 => ?_); refine gp (pIs es_26 hx89) ?_) | (refine obtS 87 88 rfl rfl (by omega) (by omega) (fun x89 hx89 => ?_); refine gp (pIs es_26 hx89) ?_) | refine gp (pIo es_26) ?_
                refine gp (by first | exact pFb fd_31_1 | exact pFs fd_31_1) ?_
                refine gr (by first | exact rS1 ty_3 | exact rB1 ty_3 | exact rAr ty_3 | exact rArL ty_3 | exact rArR ty_3 (by first | rfl | exact arrF_len one_len)) ?_
                refine gp pM ?_
                refine gp pB ?_
                refine gp pM ?_
                refine oSplitEq 94 rfl (fun c94 => ?_) (fun c94 => ?_)
                · skip
                  refine gp (pFb fd_115_1) ?_
                  refine gr (rB1 ty_26) ?_
                  refine gp pM ?_
                  first | refine gp (pIx es_26) ?_ | (refine obtSN 96 97 rfl rfl (by omega) (fun x98 hx98 => ?_); refine gp (pIs es_26 hx98) ?_) | (refine obtS 96 97 rfl rfl (by omega) (by omega) (fun x98 hx98 => ?_); refine gp (pIs es_26 hx98) ?_) | refine gp (pIo es_26) ?_
                  refine gp (by first | exact pFb fd_31_0 | exact pFs fd_31_0) ?_
                  refine gr (by first | exact rSW ty_29 rfl | exact rSA ty_29 | exact rBWa ty_29 | exact rBW ty_29 | exact rBA ty_29 | exact rArA ty_29 (fun _ => rfl)) ?_
                  refine ga ?_
                  refine (qCallV rfl rfl (by decide) rfl rfl (lents_refl _) (ref41_May e.b e.n (hb e (List.mem_of_getElem? he))) ?_).op
                  refine gp pK ?_
                  refine gp pM ?_
                  refine oSplit 103 rfl (fun c103 => ?_) (fun c103 => ?_)
                  · skip
                    refine gp (pFb fd_115_1) ?_
                    refine gr (rB1 ty_26) ?_
                    refine gp pM ?_
                    first | refine gp (pIx es_26) ?_ | (refine obtSN 105 106 rfl rfl (by omega) (fun x107 hx107 => ?_); refine gp (pIs es_26 hx107) ?_) | (refine obtS 105 106 rfl rfl (by omega) (by omega) (fun x107 hx107 => ?_); refine gp (pIs es_26 hx107) ?_) | refine gp (pIo es_26) ?_
                    refine gp (by first | exact pFb fd_31_0 | exact pFs fd_31_0) ?_
                    refine gr (by first | exact rSW ty_29 rfl | exact rSA ty_29 | exact rBWa ty_29 | exact rBW ty_29 | exact rBA ty_29 | exact rArA ty_29 (fun _ => rfl)) ?_
                    refine gp pM ?_
                    refine ga ?_
                    refine (ci rfl rfl rfl ((ref41_WithinI (b := e.b) (n := e.n) (a := a) (hb e (List.mem_of_getElem? he)) ha (by assumption))) ?_).op
                    refine gp pK ?_
                    refine sp pK ?_
                    refine sp pMa ?_
                    refine oNil ?_
                    refine aReg ?_
                    refine sp pM ?_
                    refine sp pAd ?_
                    refine sp pMa ?_
                    refine oNil ?_
                    refine ⟨(i + 1, _), ?_, by (try dsimp only); omega, ⟨gInt rfl (by first | rfl | omega | simp), rfl, rfl, rfl, rfl, rfl, rfl, trivial⟩, _, (by repeat constructor)⟩
                    refine ⟨by omega, ?_⟩
                    rw [take_step he, List.any_append, ← hq]
                    simp_all [pE]
                  · skip
                    refine gf ?_
                    refine gf ?_
                    refine gf ?_
                    refine gf ?_
                    refine gf ?_
                    refine gf ?_
                    refine gf ?_
                    refine gf ?_
                    refine gp pK ?_
                    refine sp pK ?_
                    refine sp pMa ?_
                    refine oNil ?_
                    refine aReg ?_
                    refine sp pM ?_
                    refine sp pAd ?_
                    refine sp pMa ?_
                    refine oNil ?_
                    refine ⟨(i + 1, _), ?_, by (try dsimp only); omega, ⟨gInt rfl (by first | rfl | omega | simp), rfl, rfl, rfl, rfl, rfl, rfl, trivial⟩, _, (by repeat constructor)⟩
                    refine ⟨by omega, ?_⟩
                    rw [take_step he, List.any_append, ← hq]
                    simp_all [pE]
                · skip
                  refine gf ?_
                  refine gf ?_
                  refine gf ?_
                  refine gf ?_
                  refine gf ?_
                  refine gf ?_
                  refine gf ?_
                  refine gp pK ?_
                  refine gp pM ?_
                  refine gf ?_
                  refine gf ?_
                  refine gf ?_
                  refine gf ?_
                  refine gf ?_
                  refine gf ?_
                  refine gf ?_
                  refine gf ?_
                  refine gp pK ?_
                  refine sp pK ?_
                  refine sp pMa ?_
                  refine oNil ?_
                  refine aReg ?_
                  refine sp pM ?_
                  refine sp pAd ?_
                  refine sp pMa ?_
                  refine oNil ?_
                  refine ⟨(i + 1, _), ?_, by (try dsimp only); omega, ⟨gInt rfl (by first | rfl | omega | simp), rfl, rfl, rfl, rfl, rfl, rfl, trivial⟩, _, (by repeat constructor)⟩
                  refine ⟨by omega, ?_⟩
                  rw [take_step he, List.any_append, ← hq]
                  simp_all [pE]
            · skip
              refine aExit rfl ?_
              refine aSeq ?_
              refine aSeq ?_
              refine aReg ?_
              refine sp pM ?_
              refine sp pNo ?_
              refine oNil ?_
              refine aCondNot rfl (fun c115 => ?_) (fun c115 => ?_)
              · skip
                refine aSeq ?_
                refine aReg ?_
                refine sp pMa ?_
                refine oNil ?_
                refine aRet ?_
                refine finIs rfl ?_
                first
                  | rfl
                  | exact absurd (hp4 (by assumption)) (by assumption)
                  | exact absurd (hp5 (by assumption)) (by assumption)
                  | (exfalso
                     obtain rfl : i = cs.length := by omega
                     rw [List.take_length, hp3] at hq
                     subst hq
                     contradiction)
              · skip
                refine aSkip ?_
                refine aSeq ?_
                refine aSeq ?_
                refine aReg ?_
                refine sp pM ?_
                refine sp pM ?_
                refine sp pB ?_
                refine oNil ?_
                refine aCondEq rfl (fun c118 => ?_) (fun c118 => ?_)
                · skip
                  refine aSeq ?_
                  refine aReg ?_
                  refine sp pM ?_
                  refine sp pB ?_
                  refine sp pM ?_
                  refine oSplitEq 121 rfl (fun c121 => ?_) (fun c121 => ?_)
                  · skip
                    refine ga ?_
                    refine (cv rfl rfl rfl (lents_refl _) law43_awake ?_).op
                    refine sp pK ?_
                    refine sp pMa ?_
                    refine oNil ?_
                    refine aRet ?_
                    refine finIs rfl ?_
                    first
                      | rfl
                      | exact absurd (hp4 (by assumption)) (by assumption)
                      | exact absurd (hp5 (by assumption)) (by assumption)
                      | (exfalso
                         obtain rfl : i = cs.length := by omega
                         rw [List.take_length, hp3] at hq
                         subst hq
                         contradiction)
                  · skip
                    refine gf ?_
                    refine sp pK ?_
                    refine sp pMa ?_
                    refine oNil ?_
                    refine aRet ?_
                    refine finIs rfl ?_
                    first
                      | rfl
                      | exact absurd (hp4 (by assumption)) (by assumption)
                      | exact absurd (hp5 (by assumption)) (by assumption)
                      | (exfalso
                         obtain rfl : i = cs.length := by omega
                         rw [List.take_length, hp3] at hq
                         subst hq
                         contradiction)
                · skip
                  refine aSkip ?_
                  refine aSeq ?_
                  refine aReg ?_
                  refine sp pM ?_
                  refine sp (pFb fd_115_0) ?_
                  refine sr (rB1 ty_113) ?_
                  refine sp pM ?_
                  refine sq ?_
                  refine ci rfl rfl rfl (ref26_Find (by omega)) ?_
                  refine sp (pF1 fd_125_1) ?_
                  refine sp pB ?_
                  refine sp pM ?_
                  refine oSplitEq 131 rfl (fun c131 => ?_) (fun c131 => ?_)
                  · skip
                    refine ga ?_
                    refine (cv rfl rfl rfl (lents_refl _) law43_awake ?_).op
                    refine sp pK ?_
                    refine sp pMa ?_
                    refine oNil ?_
                    refine aRet ?_
                    refine finIs rfl ?_
                    first
                      | rfl
                      | exact absurd (hp4 (by assumption)) (by assumption)
                      | exact absurd (hp5 (by assumption)) (by assumption)
                      | (exfalso
                         obtain rfl : i = cs.length := by omega
                         rw [List.take_length, hp3] at hq
                         subst hq
                         contradiction)
                  · skip
                    refine gf ?_
                    refine sp pK ?_
                    refine sp pMa ?_
                    refine oNil ?_
                    refine aRet ?_
                    refine finIs rfl ?_
                    first
                      | rfl
                      | exact absurd (hp4 (by assumption)) (by assumption)
                      | exact absurd (hp5 (by assumption)) (by assumption)
                      | (exfalso
                         obtain rfl : i = cs.length := by omega
                         rw [List.take_length, hp3] at hq
                         subst hq
                         contradiction)

end A
end Go.Proofs.Ytkgemkadebgeoaa
