/- What functions of the program compute: forest40d -/
import Derived.Test.YtkgemkadebgeoaaBforest40c
import Derived.Test.YtkgemkadebgeoaaProg
import Derived.KernelRfl
set_option linter.unusedVariables false
set_option linter.unusedSimpArgs false
namespace Go.Proofs.Ytkgemkadebgeoaa
namespace A

theorem ar_65 : arrOf Try.prog 65 = some (65, 1) := by kernel_rfl
theorem bo_4 : isBoolT Try.prog 4 = true := by kernel_rfl
theorem ty_4 : tyOf Try.prog 4 = some (1, false) := by kernel_rfl
theorem ty_65 : tyOf Try.prog 65 = some (65, true) := by kernel_rfl
theorem ua_65 : Try.prog.underlying 65 = some (.array 65 4) := by kernel_rfl
theorem ze_65 : zeroOf Try.prog 65 = some (.agg #[.bool false, .bool false, .bool false, .bool false, .bool false, .bool false, .bool false, .bool false, .bool false, .bool false, .bool false, .bool false, .bool false, .bool false, .bool false, .bool false, .bool false, .bool false, .bool false, .bool false, .bool false, .bool false, .bool false, .bool false, .bool false, .bool false, .bool false, .bool false, .bool false, .bool false, .bool false, .bool false, .bool false, .bool false, .bool false, .bool false, .bool false, .bool false, .bool false, .bool false, .bool false, .bool false, .bool false, .bool false, .bool false, .bool false, .bool false, .bool false, .bool false, .bool false, .bool false, .bool false, .bool false, .bool false, .bool false, .bool false, .bool false, .bool false, .bool false, .bool false, .bool false, .bool false, .bool false, .bool false, .bool false]) := by kernel_rfl
def okE (w : Edge) (gone : Int) (e : Edge) : Bool := !(((e.a == w.a && (e.b == w.b && (e.c == w.c && true))) || e.a == gone) || e.b == gone)

/- waymarkref39.Reached -/
def ref39_Reached_r13_T : Bool × List (List Nat × List Nat) := (true, [([], []), ([0], [0]), ([1], [1]), ([2], [2]), ([], []), ([4], [4]), ([5], [5]), ([6], [6]), ([3, 7], [3, 7])])
def ref39_Reached_r13_B : List Nat := [0, 1, 3, 7, 0, 16, 48, 112, 255]
theorem ref39_Reached_r13_t : Go.Proofs.YtkgemkadebgeoaaW.PrintLast.rtab .any (Go.Proofs.YtkgemkadebgeoaaW.PrintLast.opsOf Try.f35 13) = ref39_Reached_r13_T := by kernel_rfl
theorem ref39_Reached_r13_b : Go.Proofs.YtkgemkadebgeoaaW.PrintLast.waitsOk ref39_Reached_r13_T.2 ref39_Reached_r13_B = true := by kernel_rfl
def ref39_Reached_r14_T : Bool × List (List Nat × List Nat) := (true, [([], []), ([0], [0]), ([], []), ([2], [2]), ([1, 0, 1], [1]), ([4, 0, 1], [4]), ([3, 0, 1, 2, 3, 4, 5], [3]), ([6, 5, 0, 1, 2, 3, 4, 5], [6])])
def ref39_Reached_r14_B : List Nat := [0, 1, 0, 4, 3, 19, 63, 127]
theorem ref39_Reached_r14_t : Go.Proofs.YtkgemkadebgeoaaW.PrintLast.rtab .any (Go.Proofs.YtkgemkadebgeoaaW.PrintLast.opsOf Try.f35 14) = ref39_Reached_r14_T := by kernel_rfl
theorem ref39_Reached_r14_b : Go.Proofs.YtkgemkadebgeoaaW.PrintLast.waitsOk ref39_Reached_r14_T.2 ref39_Reached_r14_B = true := by kernel_rfl
set_option maxRecDepth 100000 in
set_option maxHeartbeats 2000000 in
theorem ref39_Reached {l : List Edge} {w : Edge} {n gone : Int} (hl : l.length ≤ 1000000 := by omega) (hok : ∀ e ∈ l, EOk e) (h0 : 0 ≤ n := by omega) (h1 : n ≤ 64 := by omega) : Triple Try.prog 35 [.sl 3 (l.map edgeC), .int n, .agg (edgeC w), .int gone] [] (Is (.agg (arrF 65 (fun x => [boA x]) (reachF (okE w gone) l n (n != gone)))) []) := by
  refine triple_ofR Try.func35 rfl (by kernel_rfl) rfl (by simp) ?_
  refine aSeq ?_
  refine aReg ?_
  refine sq ?_
  refine qBox rfl rfl (by decide) rfl rfl (fun b6 => ?_)
  refine sq ?_
  refine qAlloc rfl rfl (by decide) ze_65 rfl (fun b8 => ?_)
  refine oNil ?_
  refine aSeq ?_
  refine aReg ?_
  refine sp (pBuildA0 rfl ua_65 ty_4 ze_65 rfl) ?_
  refine sq ?_
  refine qAlloc rfl rfl (by decide) ze_65 rfl (fun b9 => ?_)
  refine sa ?_
  refine oStW rfl rfl rfl rfl (by repeat constructor) ty_65 ?_
  refine oNil ?_
  refine aSeq ?_
  refine aWeak (weak_box (b := b9) (cs' := arrF 65 (fun x => [boA x]) (fun _ => false)) (by repeat constructor) (by kernel_rfl)) ?_
  refine aReg ?_
  refine sp pM ?_
  refine sp pM ?_
  refine sp pM ?_
  refine sp pB ?_
  refine sp (pIa ar_65) ?_
  refine sa ?_
  first | refine oAr rfl rfl rfl (by repeat constructor) ty_4 ?_ | refine oArL rfl rfl rfl (by repeat constructor) ty_4 ?_ | refine oArR rfl rfl rfl (by repeat constructor) (by first | rfl | exact arrF_len one_len) ty_4 ?_
  refine oNil ?_
  refine aSeq ?_
  refine aReg ?_
  refine sp pMa ?_
  refine oNil ?_
  refine aSeq ?_
  refine aSeq ?_
  refine aReg ?_
  refine sp pMa ?_
  refine oNil ?_
  refine aBlock ?_
  refine loopF (α := Nat × (Int → Bool) × Bool) (kept := [(0, _), (3, _), (6, _), (8, _), (9, _)]) (fun (r, f, t) => r ≤ 65 ∧ sat (okE w gone) l (65 - r) f = reachF (okE w gone) l n (n != gone) ∧ (t = false → rnd (okE w gone) l f = f)) (fun (r, f, t) => [(11, .int r), (10, .v (.bool t))]) (fun (r, f, t) => [.box b9 (arrF 65 (fun x => [boA x]) f)]) (fun (r, f, t) => 65 - r) (0, _, true) ?_ ⟨gInt rfl (by first | rfl | omega | simp), rfl, rfl, rfl, rfl, rfl, rfl, trivial⟩ (by repeat constructor) ?_
  · skip
    exact ⟨by omega, rfl, fun h => by cases h⟩
  · rintro ⟨r, f, t⟩ ⟨hr, hsat, hfx⟩
    refine aSeq ?_
    refine aSeq ?_
    refine aReg ?_
    refine sp pM ?_
    refine sp pB ?_
    refine sp pM ?_
    refine oSplitDec 22 rfl (fun c22 => ?_) (fun c22 => ?_)
    · skip
      refine gp pM ?_
      refine sp pK ?_
      refine oNil ?_
      refine aCond rfl (fun c24 => ?_) (fun c24 => ?_)
      · skip
        refine aSkip ?_
        refine aSeq ?_
        refine aBlock ?_
        refine aSeq ?_
        refine aReg ?_
        refine sp pMa ?_
        refine oNil ?_
        refine aSeq ?_
        refine aReg ?_
        refine sp pMa ?_
        refine oNil ?_
        refine aBlock ?_
        refine loopF (α := Nat × (Int → Bool) × Bool) (kept := [(0, _), (3, _), (6, _), (8, _), (9, _), (11, _)]) (fun (i, g, t) => i ≤ l.length ∧ (l.drop i).foldl (rst (okE w gone)) g = rnd (okE w gone) l f ∧ (t = false → g = f)) (fun (i, g, t) => [(12, .int i), (10, .v (.bool t))]) (fun (i, g, t) => [.box b9 (arrF 65 (fun x => [boA x]) g)]) (fun (i, g, t) => l.length - i) (0, f, false) ?_ ⟨gInt rfl (by first | rfl | omega | simp), rfl, rfl, rfl, rfl, rfl, rfl, rfl, trivial⟩ (by repeat constructor) ?_
        · skip
          exact ⟨by omega, rfl, fun _ => rfl⟩
        · rintro ⟨i, g, t⟩ ⟨hi, hv, hch⟩
          refine aSeq ?_
          refine aSeq ?_
          refine aReg ?_
          refine sp pM ?_
          refine sp pM ?_
          refine sp (by first | exact pLm sl_56 | exact pLs sl_56) ?_
          refine sp pB ?_
          refine oNil ?_
          refine aCondDec rfl (fun c30 => ?_) (fun c30 => ?_)
          · skip
            refine aSkip ?_
            refine aSeq ?_
            refine aBlock ?_
            refine aSeq ?_
            refine aReg ?_
            refine sp pM ?_
            refine sp pM ?_
            first | refine sp (pIx es_56) ?_ | (refine obtSN 33 34 rfl rfl (by omega) (fun x35 hx35 => ?_); refine sp (pIs es_56 hx35) ?_) | (refine obtS 33 34 rfl rfl (by omega) (by omega) (fun x35 hx35 => ?_); refine sp (pIs es_56 hx35) ?_) | refine sp (pIo es_56) ?_
            refine sr (by first | exact rSW ty_64 rfl | exact rSA ty_64) ?_
            refine sq ?_
            refine qAlloc rfl rfl (by decide) ze_64 rfl (fun b13 => ?_)
            refine sa ?_
            refine oStW rfl rfl rfl rfl (by repeat constructor) ty_64 ?_
            refine oNil ?_
            refine aSeq ?_
            refine aSeq ?_
            have hxk := hok x35 (List.mem_of_getElem? hx35)
            unfold EOk at hxk
            refine aReg ?_
            refine sr (by first | exact rBWa ty_64 | exact rBW ty_64 | exact rBA ty_64) ?_
            refine sr (by first | exact rBWa ty_64 | exact rBW ty_64 | exact rBA ty_64) ?_
            refine sp (pEqAe eq_64) ?_
            refine sp pM ?_
            refine oSplit 40 rfl (fun c40 => ?_) (fun c40 => ?_)
            · skip
              refine gf ?_
              refine gf ?_
              refine gf ?_
              refine gf ?_
              refine sp pK ?_
              refine sp pM ?_
              refine gf ?_
              refine gf ?_
              refine gf ?_
              refine gf ?_
              refine sp pK ?_
              refine oNil ?_
              refine aCondT rfl ?_
              refine aExit rfl ?_
              refine aReg ?_
              refine sp pM ?_
              refine sp pAd ?_
              refine sp pMa ?_
              refine oNil ?_
              refine ⟨(i + 1, _, _), ?_, by (try dsimp only); omega, ⟨gInt rfl (by first | rfl | omega | simp), rfl, rfl, rfl, rfl, rfl, rfl, rfl, trivial⟩, _, (by repeat constructor)⟩
              rw [drop_step hx35, List.foldl_cons] at hv
              refine ⟨by omega, ?_, ?_⟩
              · rw [← hv]
                congr 1
                unfold rst
                split
                · first | rfl | (exfalso; simp_all [okE])
                · first | rfl | (exfalso; simp_all [okE])
              · simp_all
            · skip
              refine gp (pFb fd_64_0) ?_
              refine gr (rB1 ty_3) ?_
              refine gp pM ?_
              refine gp pB ?_
              refine sp pK ?_
              refine sp pM ?_
              refine oSplitEq 46 rfl (fun c46 => ?_) (fun c46 => ?_)
              · skip
                refine gf ?_
                refine gf ?_
                refine gf ?_
                refine gf ?_
                refine sp pK ?_
                refine oNil ?_
                refine aCondT rfl ?_
                refine aExit rfl ?_
                refine aReg ?_
                refine sp pM ?_
                refine sp pAd ?_
                refine sp pMa ?_
                refine oNil ?_
                refine ⟨(i + 1, _, _), ?_, by (try dsimp only); omega, ⟨gInt rfl (by first | rfl | omega | simp), rfl, rfl, rfl, rfl, rfl, rfl, rfl, trivial⟩, _, (by repeat constructor)⟩
                rw [drop_step hx35, List.foldl_cons] at hv
                refine ⟨by omega, ?_, ?_⟩
                · rw [← hv]
                  congr 1
                  unfold rst
                  split
                  · first | rfl | (exfalso; simp_all [okE])
                  · first | rfl | (exfalso; simp_all [okE])
                · simp_all
              · skip
                refine gp (pFb fd_64_1) ?_
                refine gr (rB1 ty_3) ?_
                refine gp pM ?_
                refine gp pB ?_
                refine sp pK ?_
                refine oNil ?_
                refine aCondEq rfl (fun c51 => ?_) (fun c51 => ?_)
                · skip
                  refine aExit rfl ?_
                  refine aReg ?_
                  refine sp pM ?_
                  refine sp pAd ?_
                  refine sp pMa ?_
                  refine oNil ?_
                  refine ⟨(i + 1, _, _), ?_, by (try dsimp only); omega, ⟨gInt rfl (by first | rfl | omega | simp), rfl, rfl, rfl, rfl, rfl, rfl, rfl, trivial⟩, _, (by repeat constructor)⟩
                  rw [drop_step hx35, List.foldl_cons] at hv
                  refine ⟨by omega, ?_, ?_⟩
                  · rw [← hv]
                    congr 1
                    unfold rst
                    split
                    · first | rfl | (exfalso; simp_all [okE])
                    · first | rfl | (exfalso; simp_all [okE])
                  · simp_all
                · skip
                  refine aSkip ?_
                  refine aSeq ?_
                  refine aDrawT ref39_Reached_r13_t ref39_Reached_r13_b [] 9 #[false, false, false, false, false, false, false, false, false] (by kernel_rfl) rfl rfl (fun HT => ?_)
                  refine dp HT 0 rfl (pFb fd_64_0) ?_
                  refine dr HT 1 rfl (rB1 ty_3) ?_
                  refine dp HT 2 rfl (pIa ar_65) ?_
                  refine dr HT 3 rfl (by first | exact rAr ty_4 | exact rArL ty_4 | exact rArR ty_4 (by first | rfl | exact arrF_len one_len)) ?_
                  refine dp HT 4 rfl (pFb fd_64_1) ?_
                  refine dr HT 5 rfl (rB1 ty_3) ?_
                  refine dp HT 6 rfl (pIa ar_65) ?_
                  refine dr HT 7 rfl (by first | exact rAr ty_4 | exact rArL ty_4 | exact rArR ty_4 (by first | rfl | exact arrF_len one_len)) ?_
                  refine dp HT 8 rfl (pEqBn bo_4) ?_
                  refine dE HT ?_
                  clear HT
                  refine aCond rfl (fun c60 => ?_) (fun c60 => ?_)
                  · skip
                    refine aSeq ?_
                    refine aDrawS (h1 := [.box b13 _]) ref39_Reached_r14_t ref39_Reached_r14_b [] 8 #[false, false, false, false, false, false, false, false] (by kernel_rfl) rfl rfl (by repeat constructor) (fun HT => ?_)
                    refine ep HT 0 rfl (pFb fd_64_0) ?_
                    refine er HT 1 rfl (rB1 ty_3) ?_
                    refine ep HT 2 rfl (pFb fd_64_1) ?_
                    refine er HT 3 rfl (rB1 ty_3) ?_
                    refine ep HT 4 rfl (pIa ar_65) ?_
                    refine eOneS (i := 5) #[true, true, true, true, true, true, false, false] rfl (HT.one (by kernel_rfl)) (by decide) ?_
                    · skip
                      refine stA (hx := [.box b9 _]) (wantN rfl) (fun t ht => by cases ht <;> decide) (.cons (by repeat constructor) .nil) (by repeat constructor) ?_
                      first | refine oAr rfl rfl rfl (by repeat constructor) ty_4 ?_ | refine oArL rfl rfl rfl (by repeat constructor) ty_4 ?_ | refine oArR rfl rfl rfl (by repeat constructor) (by first | rfl | exact arrF_len one_len) ty_4 ?_
                      dsimp only [List.cons_append, List.nil_append]
                      refine ep HT 6 rfl (pIa ar_65) ?_
                      refine eOneS (i := 7) #[true, true, true, true, true, true, true, true] rfl (HT.one (by kernel_rfl)) (by decide) ?_
                      · skip
                        refine stA (hx := [.box b9 _]) (wantN rfl) (fun t ht => by cases ht <;> decide) (.cons (by repeat constructor) .nil) (by repeat constructor) ?_
                        first | refine oAr rfl rfl rfl (by repeat constructor) ty_4 ?_ | refine oArL rfl rfl rfl (by repeat constructor) ty_4 ?_ | refine oArR rfl rfl rfl (by repeat constructor) (by first | rfl | exact arrF_len one_len) ty_4 ?_
                        dsimp only [List.cons_append, List.nil_append]
                        refine eE HT ?_
                        clear HT
                        refine aReg ?_
                        refine sp pMa ?_
                        refine oNil ?_
                        refine aReg ?_
                        refine sp pM ?_
                        refine sp pAd ?_
                        refine sp pMa ?_
                        refine oNil ?_
                        refine ⟨(i + 1, _, _), ?_, by (try dsimp only); omega, ⟨gInt rfl (by first | rfl | omega | simp), rfl, rfl, rfl, rfl, rfl, rfl, rfl, trivial⟩, _, (by repeat constructor)⟩
                        rw [drop_step hx35, List.foldl_cons] at hv
                        refine ⟨by omega, ?_, ?_⟩
                        · rw [← hv]
                          congr 1
                          unfold rst
                          split
                          · first | rfl | (exfalso; simp_all [okE])
                          · first | rfl | (exfalso; simp_all [okE])
                        · simp_all
                  · skip
                    refine aSkip ?_
                    refine aReg ?_
                    refine sp pM ?_
                    refine sp pAd ?_
                    refine sp pMa ?_
                    refine oNil ?_
                    refine ⟨(i + 1, _, _), ?_, by (try dsimp only); omega, ⟨gInt rfl (by first | rfl | omega | simp), rfl, rfl, rfl, rfl, rfl, rfl, rfl, trivial⟩, _, (by repeat constructor)⟩
                    rw [drop_step hx35, List.foldl_cons] at hv
                    refine ⟨by omega, ?_, ?_⟩
                    · rw [← hv]
                      congr 1
                      unfold rst
                      split
                      · first | rfl | (exfalso; simp_all [okE])
                      · first | rfl | (exfalso; simp_all [okE])
                    · simp_all
          · skip
            refine aExit rfl ?_
            refine aReg ?_
            refine sp pM ?_
            refine sp pAd ?_
            refine sp pMa ?_
            refine oNil ?_
            refine ⟨(r + 1, _, _), ?_, by (try dsimp only); omega, ⟨gInt rfl (by first | rfl | omega | simp), rfl, rfl, rfl, rfl, rfl, rfl, trivial⟩, _, (by repeat constructor)⟩
            obtain rfl : i = l.length := by omega
            rw [List.drop_of_length_le (by omega)] at hv
            subst hv
            refine ⟨by omega, ?_, fun h => ?_⟩
            · rw [← hsat, show 65 - r = (65 - (r + 1)) + 1 by omega]; rfl
            · rw [hch h, ← hch h]; exact congrArg _ (hch h)
      · skip
        refine aExit rfl ?_
        refine aSeq ?_
        refine aReg ?_
        refine sr (by first | exact rBWa ty_65 | exact rBW ty_65 | exact rBA ty_65) ?_
        refine sa ?_
        refine oStW rfl rfl rfl rfl (by repeat constructor) ty_65 ?_
        refine oNil ?_
        refine aRet ?_
        have hf : f = reachF (okE w gone) l n (n != gone) := by
          rw [← hsat]
          by_cases h65 : r = 65
          · rw [show 65 - r = 0 by omega]; rfl
          · rw [sat_fix (hfx (by first | (exfalso; omega) | simp_all))]
        refine finRIs (l := [.agg (arrF 65 (fun x => [boA x]) f)]) (.cons (.cellA rfl (by repeat (first | exact List.mem_cons_self | apply List.mem_cons_of_mem)) (by rw [arrF_len one_len]; exact ty_65)) .nil) (by rw [hf]; rfl)
    · skip
      refine gf ?_
      refine sp pK ?_
      refine oNil ?_
      refine aCondF rfl ?_
      refine aExit rfl ?_
      refine aSeq ?_
      refine aReg ?_
      refine sr (by first | exact rBWa ty_65 | exact rBW ty_65 | exact rBA ty_65) ?_
      refine sa ?_
      refine oStW rfl rfl rfl rfl (by repeat constructor) ty_65 ?_
      refine oNil ?_
      refine aRet ?_
      have hf : f = reachF (okE w gone) l n (n != gone) := by
        rw [← hsat]
        by_cases h65 : r = 65
        · rw [show 65 - r = 0 by omega]; rfl
        · rw [sat_fix (hfx (by first | (exfalso; omega) | simp_all))]
      refine finRIs (l := [.agg (arrF 65 (fun x => [boA x]) f)]) (.cons (.cellA rfl (by repeat (first | exact List.mem_cons_self | apply List.mem_cons_of_mem)) (by rw [arrF_len one_len]; exact ty_65)) .nil) (by rw [hf]; rfl)

end A
end Go.Proofs.Ytkgemkadebgeoaa
