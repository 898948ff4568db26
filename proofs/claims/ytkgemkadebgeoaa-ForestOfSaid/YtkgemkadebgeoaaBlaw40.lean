/- What functions of the program compute: law40 -/
import Derived.Test.YtkgemkadebgeoaaBlaw40p
import Derived.Test.YtkgemkadebgeoaaProg
import Derived.KernelRfl
set_option linter.unusedVariables false
set_option linter.unusedSimpArgs false
namespace Go.Proofs.Ytkgemkadebgeoaa
namespace A

theorem ep_65 : eqPlan Try.prog 65 = some (65, [(0, .b), (1, .b), (2, .b), (3, .b), (4, .b), (5, .b), (6, .b), (7, .b), (8, .b), (9, .b), (10, .b), (11, .b), (12, .b), (13, .b), (14, .b), (15, .b), (16, .b), (17, .b), (18, .b), (19, .b), (20, .b), (21, .b), (22, .b), (23, .b), (24, .b), (25, .b), (26, .b), (27, .b), (28, .b), (29, .b), (30, .b), (31, .b), (32, .b), (33, .b), (34, .b), (35, .b), (36, .b), (37, .b), (38, .b), (39, .b), (40, .b), (41, .b), (42, .b), (43, .b), (44, .b), (45, .b), (46, .b), (47, .b), (48, .b), (49, .b), (50, .b), (51, .b), (52, .b), (53, .b), (54, .b), (55, .b), (56, .b), (57, .b), (58, .b), (59, .b), (60, .b), (61, .b), (62, .b), (63, .b), (64, .b)]) := by kernel_rfl
theorem ik_51 : intKindOf Try.prog 51 = some .u64 := by kernel_rfl
theorem forest_Of_s {l : List Edge} (hl : l.length ≤ 1000000 := by omega) : Triple Try.prog 28 [.sl 3 (l.map edgeC)] [] (Is (.sl 3 ((if edgesB none l then l.filter (A.inF l) else []).map edgeC)) []) := (forest_Of (l := l) hl).settle
theorem ref40_Of_s {l : List Edge} (hok : ∀ e ∈ l, EOk e) (hl : l.length ≤ 1000000 := by omega) : Triple Try.prog 33 [.sl 3 (l.map edgeC)] [] (Is (.sl 3 ((l.filter (A.inF l)).map edgeC)) []) := (ref40_Of (l := l) hl hok).settle
theorem ref39_Bridges_s {l : List Edge} (hok : ∀ e ∈ l, EOk e) (hl : l.length ≤ 1000000 := by omega) : Triple Try.prog 36 [.sl 3 (l.map edgeC)] [] (Is (.sl 3 ((l.filter (brgE l)).map edgeC)) []) := (ref39_Bridges (l := l) hl hok).settle
def triL : List Edge := [⟨1, 2, 3⟩, ⟨1, 3, 1⟩, ⟨2, 3, 2⟩]
def twoL : List Edge := [⟨1, 3, 1⟩, ⟨2, 3, 2⟩]
theorem tri_two : (if edgesB none triL then triL.filter (A.inF triL) else []) = twoL := by decide +kernel
theorem two_cost : (if edgesB none twoL then costE twoL else 0) = 3 := by decide +kernel

/- waymarklaw40.awake -/
set_option maxRecDepth 100000 in
set_option maxHeartbeats 400000 in
theorem law40_awake  : Triple Try.prog 27 [] [] (Is (.v (.bool true)) []) := by
  refine triple_of Try.func27 rfl (by kernel_rfl) rfl (by simp) ?_
  refine aSeq ?_
  refine aReg ?_
  refine sp pMa ?_
  refine oNil ?_
  refine aSeq ?_
  refine aReg ?_
  refine sp (pBuild rfl st_64 ze_64 rfl rfl rfl rfl) ?_
  refine sp (pBuild rfl st_64 ze_64 rfl rfl rfl rfl) ?_
  refine sp (pBuild rfl st_64 ze_64 rfl rfl rfl rfl) ?_
  refine sq ?_
  refine qLit (l := [_, _, _]) rfl rfl (by decide) us_56 ty_64 ze_64 rfl (by decide) (by decide) rfl rfl rfl (fun b5 => ?_)
  refine oWeak (weak_settle (k := 5) rfl .hd rfl) ?_
  refine sq ?_
  refine ci rfl rfl rfl (forest_Of_s (l := triL) (by decide)) ?_
  rw [tri_two]
  refine sp pMa ?_
  refine oNil ?_
  refine aSeq ?_
  have h0 : twoL[(0 : Int).toNat]? = some ⟨1, 3, 1⟩ := rfl
  refine aReg ?_
  refine sp pM ?_
  refine sp (by first | exact pLm sl_56 | exact pLs sl_56 | exact pLv sl_56) ?_
  refine sp pB ?_
  refine sp pM ?_
  refine gp pM ?_
  first | refine gp (pIx es_56) ?_ | refine gp (pIo es_56) ?_
  refine gr (by first | exact rSW ty_64 rfl | exact rSA ty_64 | exact rBWa ty_64 | exact rBW ty_64 | exact rBA ty_64 | exact rArA ty_64 (fun _ => rfl)) ?_
  refine gp (pBuild rfl st_64 ze_64 rfl rfl rfl rfl) ?_
  refine gp (pEqA rfl (.inl rfl) rfl rfl eq_64 rfl rfl) ?_
  refine sp pK ?_
  refine sp pM ?_
  refine gp pM ?_
  refine ga ?_
  refine (cv rfl rfl rfl (lents_refl _) (forest_Cost (l := twoL) (by decide)) ?_).op
  rw [two_cost]
  refine gp pB ?_
  refine sp pK ?_
  refine sp pMa ?_
  refine oNil ?_
  refine aRet ?_
  refine finIs rfl ?_
  rfl

/- waymarklaw40.ForestOf -/
set_option maxRecDepth 100000 in
set_option maxHeartbeats 400000 in
theorem law40_ForestOf {l : List Edge} (hl : l.length ≤ 9223372036854775807) : Triple Try.prog 6 [.sl 3 (l.map edgeC)] [] (Is (.v (.bool true)) []) := by
  refine triple_of Try.func6 rfl (by kernel_rfl) rfl (by simp) ?_
  refine aSeq ?_
  refine aReg ?_
  refine sp pMa ?_
  refine oNil ?_
  refine aSeq ?_
  refine aSeq ?_
  refine aReg ?_
  refine sp pM ?_
  refine sp (by first | exact pLm sl_56 | exact pLs sl_56) ?_
  refine sp pB ?_
  refine oNil ?_
  refine aCondDec rfl (fun c6 => ?_) (fun c6 => ?_)
  · skip
    refine aSeq ?_
    refine aReg ?_
    refine sq ?_
    refine cv rfl rfl rfl (lents_refl _) law40_awake ?_
    refine sp pMa ?_
    refine oNil ?_
    refine aRet ?_
    refine finIs rfl ?_
    rfl
  · skip
    refine aSkip ?_
    refine aSeq ?_
    refine aReg ?_
    refine sp pM ?_
    refine sq ?_
    refine ci rfl rfl rfl (forest_Of_s (l := l)) ?_
    refine sp pMa ?_
    refine oNil ?_
    refine aSeq ?_
    refine aSeq ?_
    refine aReg ?_
    refine sp pM ?_
    refine sq ?_
    refine cv rfl rfl rfl (lents_refl _) forest_Check ?_
    refine sp pB ?_
    refine sp pM ?_
    refine sq ?_
    refine cv rfl rfl rfl (lents_refl _) ref40_May ?_
    refine sp (pBl (by exact pEqBn bo_4) (show _ = false from by cases edgesB none l <;> rfl)) ?_
    refine oNil ?_
    refine aCondF rfl ?_
    refine aSkip ?_
    refine aSeq ?_
    refine aSeq ?_
    refine aReg ?_
    refine sp pM ?_
    refine sq ?_
    refine cv rfl rfl rfl (lents_refl _) ref40_May ?_
    refine sp pNo ?_
    refine oNil ?_
    refine aCondNot rfl (fun c18 => ?_) (fun c18 => ?_)
    · skip
      refine aSeq ?_
      have hno : edgesB none l = false := by simpa using c18
      refine aReg ?_
      refine sp pM ?_
      refine sp (by first | exact pLm sl_56 | exact pLs sl_56 | exact pLv sl_56) ?_
      refine sp (pBl (by exact pB) (show _ = true from by simp [hno])) ?_
      refine sp pM ?_
      refine gp pM ?_
      refine ga ?_
      refine (cv rfl rfl rfl (lents_refl _) forest_Cost ?_).op
      have hq : (.bool ((if edgesB none l = true then costE l else 0) == 0) : Value) = .bool true := by rw [hno]; rfl
      rw [hno]
      refine gp pB ?_
      refine sp pK ?_
      refine sp pM ?_
      refine ga ?_
      refine (cv rfl rfl rfl (lents_refl _) law40_awake ?_).op
      refine sp pK ?_
      refine sp pMa ?_
      refine oNil ?_
      refine aRet ?_
      refine finIs rfl ?_
      rfl
    · skip
      refine aSkip ?_
      refine aSeq ?_
      have hyes : edgesB none l = true := by simpa using c18
      have hok := fun e he => EOk.of (edgesB_all hyes e he)
      refine aWeak (weak_av (k := 3) (a' := .sl 3 ((l.filter (A.inF l)).map edgeC)) rfl (by rw [hyes]; rfl)) ?_
      have hfl := List.length_filter_le (A.inF l) l
      refine aReg ?_
      refine sp pM ?_
      refine sp pM ?_
      refine sq ?_
      refine ci rfl rfl rfl (ref40_Of_s hok) ?_
      refine sq ?_
      refine cv rfl rfl rfl (lents_refl _) ref39_Same ?_
      rw [show decide (l.filter (A.inF l) = l.filter (A.inF l)) = true by simp]
      refine sp pM ?_
      refine gp pM ?_
      refine ga ?_
      refine (cv rfl rfl rfl (lents_refl _) forest_Cost ?_).op
      refine gp pM ?_
      refine ga ?_
      refine (cv rfl rfl rfl (lents_refl _) (ref40_Cost (by omega) (edgesB_all hyes)) ?_).op
      refine gp (pBl (by exact pB) (show _ = true from by simp [hyes])) ?_
      refine sp pK ?_
      refine sp pM ?_
      refine ga ?_
      refine (cv rfl rfl rfl (lents_refl _) law40_awake ?_).op
      refine sp pK ?_
      refine sp pMa ?_
      refine oNil ?_
      refine aRet ?_
      refine finIs rfl ?_
      rfl

/- waymarklaw40.ForestLeast -/
set_option maxRecDepth 100000 in
set_option maxHeartbeats 1000000 in
theorem law40_ForestLeast {l : List Edge} (hl : l.length ≤ 9223372036854775807) (ch : Int) (hc : 0 ≤ ch) : Triple Try.prog 7 [.sl 3 (l.map edgeC), .v (.int .u64 ch)] [] (Is (.v (.bool true)) []) := by
  refine triple_of Try.func7 rfl (by kernel_rfl) rfl (by simp) ?_
  refine aSeq ?_
  refine aReg ?_
  refine sp pMa ?_
  refine oNil ?_
  refine aSeq ?_
  refine aSeq ?_
  refine aReg ?_
  refine sp pM ?_
  refine sp (by first | exact pLm sl_56 | exact pLs sl_56) ?_
  refine sp pB ?_
  refine sp pM ?_
  refine oSplitDec 16 rfl (fun c16 => ?_) (fun c16 => ?_)
  · skip
    refine gf ?_
    refine gf ?_
    refine gf ?_
    refine sp pK ?_
    refine oNil ?_
    refine aCondT rfl ?_
    refine aSeq ?_
    refine aReg ?_
    refine sq ?_
    refine cv rfl rfl rfl (lents_refl _) law40_awake ?_
    refine sp pMa ?_
    refine oNil ?_
    refine aRet ?_
    refine finIs rfl ?_
    rfl
  · skip
    refine gp pM ?_
    refine ga ?_
    refine (cv rfl rfl rfl (lents_refl _) ref40_May ?_).op
    refine gp pNo ?_
    refine sp pK ?_
    refine oNil ?_
    refine aCondNot rfl (fun c20 => ?_) (fun c20 => ?_)
    · skip
      refine aSeq ?_
      refine aReg ?_
      refine sq ?_
      refine cv rfl rfl rfl (lents_refl _) law40_awake ?_
      refine sp pMa ?_
      refine oNil ?_
      refine aRet ?_
      refine finIs rfl ?_
      rfl
    · skip
      refine aSkip ?_
      refine aSeq ?_
      have hyes : edgesB none l = true := by simp_all
      have hok := fun e he => EOk.of (edgesB_all hyes e he)
      have hfl := List.length_filter_le (A.inF l) l
      have hokf : ∀ e ∈ l.filter (A.inF l), EOk e := fun e he => hok e (List.mem_filter.1 he).1
      refine aReg ?_
      refine sp pM ?_
      refine sq ?_
      refine ci rfl rfl rfl (forest_Of_s (l := l)) ?_
      refine sp pMa ?_
      refine oNil ?_
      refine aSeq ?_
      refine aWeak (weak_av (k := 5) (a' := .sl 3 ((l.filter (A.inF l)).map edgeC)) rfl (by rw [hyes]; rfl)) ?_
      refine aReg ?_
      refine sq ?_
      refine qLit (l := []) rfl rfl (by decide) us_56 ty_64 ze_64 rfl (by decide) (by decide) rfl rfl rfl (fun b24 => ?_)
      refine sp pMa ?_
      refine oNil ?_
      refine aSeq ?_
      refine aSeq ?_
      refine aReg ?_
      refine sp pMa ?_
      refine oNil ?_
      refine aBlock ?_
      refine loopF (α := Nat × List Edge × Option Nat × Nat) (kept := [(0, _), (1, _), (5, _)]) (fun (i, sm, g, c) => i ≤ l.length ∧ sm.Sublist (l.take i)) (fun (i, sm, g, c) => [(7, .int i), (6, .v (slV g sm.length c))]) (fun (i, sm, g, c) => [.sl g c 64 3 (sm.map edgeC)]) (fun (i, sm, g, c) => l.length - i) (0, [], _, _) ?_ ⟨gInt rfl (by first | rfl | omega | simp), gLen rfl (by first | rfl | simp | (simp; omega)), rfl, rfl, rfl, trivial⟩ (by repeat constructor) ?_
      · skip
        exact ⟨by omega, .slnil⟩
      · rintro ⟨i, sm, g, c⟩ ⟨hi, hsub⟩
        refine aSeq ?_
        refine aSeq ?_
        refine aReg ?_
        refine sp pM ?_
        refine sp pM ?_
        refine sp (by first | exact pLm sl_56 | exact pLs sl_56) ?_
        refine sp pB ?_
        refine oNil ?_
        refine aCondDec rfl (fun c28 => ?_) (fun c28 => ?_)
        · skip
          refine aSkip ?_
          refine aSeq ?_
          refine aBlock ?_
          refine aSeq ?_
          refine aReg ?_
          refine sp pM ?_
          refine sp pM ?_
          refine sp (by first | exact pCvK ik_3 ik_51 | exact pConv rfl rfl ik_3 ik_51 rfl) ?_
          refine sp (pShr rfl rfl rfl (by omega)) ?_
          refine sp (pRem rfl rfl rfl (by first | decide | omega)) ?_
          refine sp pB ?_
          refine oNil ?_
          refine aCondEq rfl (fun c36 => ?_) (fun c36 => ?_)
          · skip
            refine aReg ?_
            refine sp pM ?_
            refine sp pM ?_
            refine sp pM ?_
            first | refine sp (pIx es_56) ?_ | (refine obtSN 38 39 rfl rfl (by omega) (fun x40 hx40 => ?_); refine sp (pIs es_56 hx40) ?_) | (refine obtS 38 39 rfl rfl (by omega) (by omega) (fun x40 hx40 => ?_); refine sp (pIs es_56 hx40) ?_) | refine sp (pIo es_56) ?_
            refine sr (by first | exact rSW ty_64 rfl | exact rSA ty_64) ?_
            refine sq ?_
            refine qLit (l := [_]) rfl rfl (by decide) us_56 ty_64 ze_64 rfl (by decide) (by decide) rfl rfl rfl (fun b42 => ?_)
            have hsl := hsub.length_le
            rw [List.length_take] at hsl
            refine sa ?_
            refine oAppT [_] rfl rfl (by repeat constructor) (srcOwn rfl (by repeat constructor) rfl) el_56 sl_56 (fun g43 k43 => ?_)
            refine sp pMa ?_
            refine oNil ?_
            refine aReg ?_
            refine sp pM ?_
            refine sp pAd ?_
            refine sp pMa ?_
            refine oNil ?_
            refine ⟨(i + 1, _, _, _), ?_, by (try dsimp only); omega, ⟨gInt rfl (by first | rfl | omega | simp), gLen rfl (by first | rfl | simp | (simp; omega)), rfl, rfl, rfl, trivial⟩, _, (by repeat constructor)⟩
            have hil : i < l.length := by omega
            have hx := List.getElem?_eq_getElem hil
            refine ⟨by omega, ?_⟩
            rw [take_step hx]
            first
              | (have := Option.some.inj (hx40.symm.trans hx); subst this; exact hsub.append_right _)
              | exact hsub.trans (List.sublist_append_left _ _)
          · skip
            refine aSkip ?_
            refine aReg ?_
            refine sp pM ?_
            refine sp pAd ?_
            refine sp pMa ?_
            refine oNil ?_
            refine ⟨(i + 1, _, _, _), ?_, by (try dsimp only); omega, ⟨gInt rfl (by first | rfl | omega | simp), gLen rfl (by first | rfl | simp | (simp; omega)), rfl, rfl, rfl, trivial⟩, _, (by repeat constructor)⟩
            have hil : i < l.length := by omega
            have hx := List.getElem?_eq_getElem hil
            refine ⟨by omega, ?_⟩
            rw [take_step hx]
            first
              | (have := Option.some.inj (hx40.symm.trans hx); subst this; exact hsub.append_right _)
              | exact hsub.trans (List.sublist_append_left _ _)
        · skip
          refine aExit rfl ?_
          refine aSeq ?_
          obtain rfl : i = l.length := by omega
          rw [List.take_length] at hsub
          have hsl := hsub.length_le
          have hoks : ∀ e ∈ sm, EOk e := fun e he => hok e (hsub.subset he)
          refine aWeak (weak_settle (k := 6) rfl (by repeat constructor) (by first | rfl | (simp; done) | (simp; omega) | (simp_all; done))) ?_
          refine aReg ?_
          refine sp pMa ?_
          refine oNil ?_
          refine aSeq ?_
          refine aSeq ?_
          refine aReg ?_
          refine sp pMa ?_
          refine oNil ?_
          refine aBlock ?_
          refine loopF (α := Nat × Bool) (kept := [(0, _), (5, _), (6, _)]) (fun (n, en) => 1 ≤ n ∧ n ≤ 65 ∧ (en = true → ∀ m : Int, 1 ≤ m → m < n → ∀ i : Int, 0 ≤ i → i < 65 → reachF allE l m true i = reachF allE sm m true i)) (fun (n, en) => [(9, .int n), (8, .v (.bool en))]) (fun (n, en) => []) (fun (n, en) => 65 - n) (1, true) ?_ ⟨gInt rfl (by first | rfl | omega | simp), rfl, rfl, rfl, rfl, trivial⟩ (by repeat constructor) ?_
          · skip
            exact ⟨by omega, by omega, fun _ m h1 h2 => by omega⟩
          · rintro ⟨n, en⟩ ⟨hn1, hn, hen⟩
            refine aSeq ?_
            refine aSeq ?_
            refine aReg ?_
            refine sp pM ?_
            refine sp pB ?_
            refine oNil ?_
            refine aCondDec rfl (fun c45 => ?_) (fun c45 => ?_)
            · skip
              refine aSkip ?_
              refine aSeq ?_
              refine aBlock ?_
              refine aSeq ?_
              refine aReg ?_
              refine sp pM ?_
              refine sp pM ?_
              refine sp (pBuild rfl st_64 ze_64 rfl rfl rfl rfl) ?_
              refine sq ?_
              refine ci rfl rfl rfl (ref39_Reached (w := ⟨0, 0, 0⟩) (by omega) hok) ?_
              refine sp pM ?_
              refine sp pM ?_
              refine sp (pBuild rfl st_64 ze_64 rfl rfl rfl rfl) ?_
              refine sq ?_
              refine ci rfl rfl rfl (ref39_Reached (w := ⟨0, 0, 0⟩) (by omega) hokf) ?_
              refine sp pM ?_
              refine sp pM ?_
              refine sp (pBuild rfl st_64 ze_64 rfl rfl rfl rfl) ?_
              refine sq ?_
              refine ci rfl rfl rfl (ref39_Reached (w := ⟨0, 0, 0⟩) (by omega) hoks) ?_
              refine sq ?_
              refine qAlloc rfl rfl (by decide) ze_65 rfl (fun b10 => ?_)
              refine sq ?_
              refine qAlloc rfl rfl (by decide) ze_65 rfl (fun b11 => ?_)
              refine sq ?_
              refine qAlloc rfl rfl (by decide) ze_65 rfl (fun b12 => ?_)
              refine sa ?_
              refine oStW rfl rfl rfl rfl (by repeat constructor) ty_65 ?_
              refine sa ?_
              refine oStW rfl rfl rfl rfl (by repeat constructor) ty_65 ?_
              refine sa ?_
              refine oStW rfl rfl rfl rfl (by repeat constructor) ty_65 ?_
              refine oNil ?_
              refine aSeq ?_
              refine aSeq ?_
              have heq : (reachF (okE ⟨0, 0, 0⟩ 0) l (n : Int) ((n : Int) != 0)) = (reachF (okE ⟨0, 0, 0⟩ 0) (l.filter (A.inF l)) (n : Int) ((n : Int) != 0)) := by rw [reach0 hok (by omega), reach0 hokf (by omega)]; exact reach_same hok hokf (forest_spans hyes) (by omega) (by omega)
              rw [← heq]
              refine aReg ?_
              refine sr (by first | exact rBWa ty_65 | exact rBW ty_65 | exact rBA ty_65) ?_
              refine sr (by first | exact rBWa ty_65 | exact rBW ty_65 | exact rBA ty_65) ?_
              refine sp (pBl (by exact pEqArN .b (fun _ _ => rfl) ep_65 (by decide)) (show _ = false from by rw [Bool.not_eq_false']; exact eqF_iff.2 (fun i _ _ => rfl))) ?_
              refine oNil ?_
              refine aCondF rfl ?_
              refine aSkip ?_
              refine aReg ?_
              refine sp pM ?_
              refine sp pM ?_
              refine oSplit 64 rfl (fun c64 => ?_) (fun c64 => ?_)
              · skip
                refine gr (by first | exact rBWa ty_65 | exact rBW ty_65 | exact rBA ty_65) ?_
                refine gr (by first | exact rBWa ty_65 | exact rBW ty_65 | exact rBA ty_65) ?_
                refine gp (pEqArE .b (fun _ _ => rfl) ep_65 (by decide)) ?_
                refine sp pK ?_
                refine sp pMa ?_
                refine oNil ?_
                refine aReg ?_
                refine sp pM ?_
                refine sp pAd ?_
                refine sp pMa ?_
                refine oNil ?_
                refine ⟨(n + 1, _), ?_, by (try dsimp only); omega, ⟨gInt rfl (by first | rfl | omega | simp), rfl, rfl, rfl, rfl, trivial⟩, _, (by repeat constructor)⟩
                refine ⟨by omega, by omega, fun h m h1 h2 i hi0 hi1 => ?_⟩
                first
                  | contradiction
                  | (by_cases hm : m = n
                     · subst hm
                       have h3 := eqF_iff.1 h i hi0 hi1
                       rw [← reach0 hok (by omega), ← reach0 hoks (by omega)]
                       exact h3
                     · exact hen (by simp_all) m h1 (by omega) i hi0 hi1)
              · skip
                refine gf ?_
                refine gf ?_
                refine gf ?_
                refine sp pK ?_
                refine sp pMa ?_
                refine oNil ?_
                refine aReg ?_
                refine sp pM ?_
                refine sp pAd ?_
                refine sp pMa ?_
                refine oNil ?_
                refine ⟨(n + 1, _), ?_, by (try dsimp only); omega, ⟨gInt rfl (by first | rfl | omega | simp), rfl, rfl, rfl, rfl, trivial⟩, _, (by repeat constructor)⟩
                refine ⟨by omega, by omega, fun h m h1 h2 i hi0 hi1 => ?_⟩
                first
                  | contradiction
                  | (by_cases hm : m = n
                     · subst hm
                       have h3 := eqF_iff.1 h i hi0 hi1
                       rw [← reach0 hok (by omega), ← reach0 hoks (by omega)]
                       exact h3
                     · exact hen (by simp_all) m h1 (by omega) i hi0 hi1)
            · skip
              refine aExit rfl ?_
              refine aSeq ?_
              have hbr := forest_brg hyes
              refine aReg ?_
              refine sp pM ?_
              refine sq ?_
              refine ci rfl rfl rfl (ref39_Bridges_s hokf) ?_
              refine sp (by first | exact pLm sl_56 | exact pLs sl_56 | exact pLv sl_56) ?_
              refine sp pM ?_
              refine sp (by first | exact pLm sl_56 | exact pLs sl_56 | exact pLv sl_56) ?_
              refine sp (pBl (by exact pB) (show _ = true from by rw [hbr]; simp)) ?_
              refine sp pM ?_
              refine gp pM ?_
              refine gp pNo ?_
              refine gp pM ?_
              refine oSplitNot 78 rfl (fun c78 => ?_) (fun c78 => ?_)
              · skip
                refine gf ?_
                refine gf ?_
                refine gf ?_
                refine gf ?_
                refine gf ?_
                refine gp pK ?_
                refine sp pK ?_
                refine sp pM ?_
                refine ga ?_
                refine (cv rfl rfl rfl (lents_refl _) law40_awake ?_).op
                refine sp pK ?_
                refine sp pMa ?_
                refine oNil ?_
                refine aRet ?_
                refine finIs rfl ?_
                rfl
              · skip
                refine gp pM ?_
                refine ga ?_
                refine (cv rfl rfl rfl (lents_refl _) forest_Cost ?_).op
                refine gp pM ?_
                refine ga ?_
                refine (cv rfl rfl rfl (lents_refl _) (ref40_Cost (by omega) (fun e he => edgesB_all hyes e (hsub.subset he))) ?_).op
                refine gp (pBl (by exact pB) (show _ = true from by simp only [forest_ok hyes, if_true, decide_eq_true_eq]; exact forest_least hyes hsub (fun m h1 h2 => hen (by simp_all) m h1 (by omega)))) ?_
                refine gp pK ?_
                refine sp pK ?_
                refine sp pM ?_
                refine ga ?_
                refine (cv rfl rfl rfl (lents_refl _) law40_awake ?_).op
                refine sp pK ?_
                refine sp pMa ?_
                refine oNil ?_
                refine aRet ?_
                refine finIs rfl ?_
                rfl

end A
end Go.Proofs.Ytkgemkadebgeoaa
