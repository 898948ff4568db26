/- What functions of the program compute: law25 -/
import Derived.Test.YtmcannmjielalaaBhops26p
import Derived.Test.YtmcannmjielalaaProg
import Derived.KernelRfl
set_option linter.unusedVariables false
set_option linter.unusedSimpArgs false
namespace Go.Proofs.Ytmcannmjielalaa
namespace A

theorem ar_44 : arrOf Try.prog 44 = some (3, 1) := by kernel_rfl
def aL25 : List Arc := [⟨1, 2, 5⟩, ⟨1, 3, 2⟩, ⟨3, 2, 2⟩]
def aR25 : List Rt := [⟨2, 3, 4⟩, ⟨3, 3, 2⟩]
theorem aL25_r : rtsM aL25 1 = aR25 := by decide +kernel
theorem aL25_b : dstB aL25 1 2 = true := by decide +kernel
theorem aL25_m : dstM aL25 1 2 = 4 := by decide +kernel
theorem dst_range {l : List Arc} (hll : l.length ≤ 1000000) (a b : Int) : 0 ≤ dstM l a b ∧ dstM l a b ≤ 69793218560000000 := by
  unfold dstM
  split
  · rename_i h
    unfold dstB at h
    rw [Bool.and_eq_true] at h
    exact dF_range (arcs_ok h.1) hll a b
  · omega
theorem dst_tri {l : List Arc} {a b c : Int} (h1 : dstB l a b = true) (h2 : dstB l b c = true) : dstB l a c = true ∧ dstM l a c ≤ dstM l a b + dstM l b c := by
  have e1 := h1
  have e2 := h2
  unfold dstB at e1 e2
  rw [Bool.and_eq_true] at e1 e2
  have hok := arcs_ok e1.1
  have hr := isF_range hok e1.2
  have h3 := wk_isF hok (.inl ⟨hr.1, hr.2.1⟩) ((isF_wk hok e1.2).trans (isF_wk hok e2.2))
  have h4 : dstB l a c = true := by unfold dstB; rw [e1.1, h3.1]; rfl
  refine ⟨h4, ?_⟩
  unfold dstM
  rw [h1, h2, h4]
  exact h3.2
/-- A route's via: an arc goes to it, and the distance from it is less by what that costs. -/
theorem rts_via {l : List Arc} {r : Int} {x : Rt} (h : x ∈ rtsM l r) : ∃ a ∈ l, a.f = r ∧ a.t = x.via ∧ 1 ≤ a.c ∧ a.c ≤ 1073741824 ∧ dstB l x.via x.nd = true ∧ a.c + dstM l x.via x.nd = x.c := by
  obtain ⟨hok, h1, h2, h3⟩ := rtsM_mem h
  obtain ⟨a, ha, hf, ht, hi, hd⟩ := hop_step (arcs_ok hok) (arcsB_sorted hok) h2 h1
  have hak := arcs_ok hok a ha
  unfold AOk at hak
  have hv : x.via = viaM l r x.nd := congrArg Rt.via h3
  have hc : x.c = dF l r x.nd := congrArg Rt.c h3
  have hb : dstB l x.via x.nd = true := by unfold dstB; rw [hok, hv, hi]; rfl
  refine ⟨a, ha, hf, by rw [hv]; exact ht, hak.2.2.2.2.2.1, hak.2.2.2.2.2.2, hb, ?_⟩
  unfold dstM
  rw [hb, if_pos rfl, hc, hv]
  exact hd
def ArcV (l : List Arc) (a b : Int) (v : Int) : Prop := ∀ y ∈ l, y.f = a → y.t = b → v = y.c
theorem ArcV.no {l : List Arc} {a b v : Int} {y : Arc} (h : ArcV l a b v) (hy : ¬ (y.f = a ∧ y.t = b)) : ArcV (l ++ [y]) a b v := fun z hz h1 h2 => by
  rcases List.mem_append.1 hz with hz | hz
  · exact h z hz h1 h2
  · rw [List.mem_singleton.1 hz] at h1 h2; exact absurd ⟨h1, h2⟩ hy
theorem ArcV.yes {l m : List Arc} (hok : arcsB none l = true) (hm : ∀ y ∈ m, y ∈ l) {a b v : Int} {y : Arc} (hyl : y ∈ l) (h : ArcV m a b v) (h1 : y.f = a) (h2 : y.t = b) : ArcV (m ++ [y]) a b y.c := fun z hz k1 k2 => by
  rcases List.mem_append.1 hz with hz | hz
  · rw [arcs_uniq hok hyl (hm z hz) (by rw [h1, k1]) (by rw [h2, k2])]
  · rw [List.mem_singleton.1 hz]

/- waymarklaw25.light -/
set_option maxRecDepth 100000 in
set_option maxHeartbeats 400000 in
theorem law25_light {l : List Arc} : Triple Try.prog 41 [.sl 3 (l.map arcC)] [] (Is (.v (.bool (decide (l.length ≤ 120)))) []) := by
  refine triple_of Try.func41 rfl (by kernel_rfl) rfl (by simp) ?_
  refine aSeq ?_
  refine aReg ?_
  refine sp pMa ?_
  refine oNil ?_
  refine aSeq ?_
  refine aReg ?_
  refine sp pM ?_
  refine sp (by first | exact pLm sl_22 | exact pLs sl_22) ?_
  refine sp pB ?_
  refine sp pMa ?_
  refine oNil ?_
  refine aRet ?_
  refine finIs rfl ?_
  show AV.v _ = AV.v _
  congr 2
  rw [decide_eq_decide]
  omega

/- waymarklaw25.awake -/
set_option maxRecDepth 100000 in
set_option maxHeartbeats 400000 in
theorem law25_awake  : Triple Try.prog 42 [] [] (Is (.v (.bool true)) []) := by
  refine triple_of Try.func42 rfl (by kernel_rfl) rfl (by simp) ?_
  refine aSeq ?_
  refine aReg ?_
  refine sp pMa ?_
  refine oNil ?_
  refine aSeq ?_
  refine aReg ?_
  refine sp (pBuild rfl st_36 ze_36 rfl rfl rfl rfl) ?_
  refine sp (pBuild rfl st_36 ze_36 rfl rfl rfl rfl) ?_
  refine sp (pBuild rfl st_36 ze_36 rfl rfl rfl rfl) ?_
  refine sq ?_
  refine qLit (l := [_, _, _]) rfl rfl (by decide) us_22 ty_36 ze_36 rfl (by decide) (by decide) rfl rfl rfl (fun b8 => ?_)
  refine oWeak (weak_settle (k := 8) (es := aL25.map arcC) rfl .hd rfl) ?_
  refine sp pMa ?_
  refine oNil ?_
  refine aSeq ?_
  refine aReg ?_
  refine sp pM ?_
  refine sq ?_
  refine ci rfl rfl rfl (spf_Routes_s (l := aL25) (r := 1) (by decide)) ?_
  rw [aL25_r]
  refine sp pMa ?_
  refine oNil ?_
  refine aSeq ?_
  refine aReg ?_
  refine sp pM ?_
  refine sq ?_
  refine ci rfl rfl rfl (spf_Distance (l := aL25) (a := 1) (b := 2) (by decide)) ?_
  rw [aL25_b, aL25_m]
  refine sp pM ?_
  refine sp pX ?_
  refine sp pX ?_
  refine sp pMa ?_
  refine sp pMa ?_
  refine oNil ?_
  refine aSeq ?_
  have h0 : aR25[(0 : Int).toNat]? = some ⟨2, 3, 4⟩ := rfl
  have h1 : aR25[(1 : Int).toNat]? = some ⟨3, 3, 2⟩ := rfl
  refine aReg ?_
  refine sp pM ?_
  refine sp (by first | exact pLm sl_41 | exact pLs sl_41 | exact pLv sl_41) ?_
  refine sp pB ?_
  refine sp pM ?_
  refine gp pM ?_
  first | refine gp (pIx es_41) ?_ | refine gp (pIo es_41) ?_
  refine gr (by first | exact rSW ty_49 rfl | exact rSA ty_49 | exact rBWa ty_49 | exact rBW ty_49 | exact rBA ty_49 | exact rArA ty_49 (fun _ => rfl)) ?_
  refine gp (pBuild rfl st_49 ze_49 rfl rfl rfl rfl) ?_
  refine gp (pEqA rfl (.inl rfl) rfl rfl eq_49 rfl rfl) ?_
  refine sp pK ?_
  refine sp pM ?_
  refine gp pM ?_
  first | refine gp (pIx es_41) ?_ | refine gp (pIo es_41) ?_
  refine gr (by first | exact rSW ty_49 rfl | exact rSA ty_49 | exact rBWa ty_49 | exact rBW ty_49 | exact rBA ty_49 | exact rArA ty_49 (fun _ => rfl)) ?_
  refine gp (pBuild rfl st_49 ze_49 rfl rfl rfl rfl) ?_
  refine gp (pEqA rfl (.inl rfl) rfl rfl eq_49 rfl rfl) ?_
  refine sp pK ?_
  refine sp pM ?_
  refine gp pM ?_
  refine sp pK ?_
  refine sp pM ?_
  refine gp pM ?_
  refine gp pB ?_
  refine sp pK ?_
  refine sp pMa ?_
  refine oNil ?_
  refine aRet ?_
  refine finIs rfl ?_
  rfl

/- waymarklaw25.SpfRoutes -/
set_option maxRecDepth 100000 in
set_option maxHeartbeats 1000000 in
theorem law25_SpfRoutes {l : List Arc} {r : Int} : Triple Try.prog 5 [.sl 3 (l.map arcC), .int r] [] (Is (.v (.bool true)) []) := by
  refine triple_of Try.func5 rfl (by kernel_rfl) rfl (by simp) ?_
  refine aSeq ?_
  refine aReg ?_
  refine sp pMa ?_
  refine oNil ?_
  refine aSeq ?_
  refine aSeq ?_
  refine aReg ?_
  refine sp pM ?_
  refine sq ?_
  refine cv rfl rfl rfl (lents_refl _) law25_light ?_
  refine sp pNo ?_
  refine oNil ?_
  refine aCondNot rfl (fun c8 => ?_) (fun c8 => ?_)
  · skip
    refine aSeq ?_
    refine aReg ?_
    refine sq ?_
    refine cv rfl rfl rfl (lents_refl _) law25_awake ?_
    refine sp pMa ?_
    refine oNil ?_
    refine aRet ?_
    refine finIs rfl ?_
    rfl
  · skip
    refine aSkip ?_
    refine aSeq ?_
    have hlen : l.length ≤ 120 := by simpa using c8
    refine aReg ?_
    refine sp pM ?_
    refine sp pM ?_
    refine sq ?_
    refine ci rfl rfl rfl (spf_Routes_s (l := l) (r := r) (by omega)) ?_
    refine sp pMa ?_
    refine oNil ?_
    refine aSeq ?_
    refine aSeq ?_
    refine aReg ?_
    refine sp pM ?_
    refine sq ?_
    refine cv rfl rfl rfl (lents_refl _) ref24_May ?_
    refine sp pNo ?_
    refine oNil ?_
    refine aCondNot rfl (fun c15 => ?_) (fun c15 => ?_)
    · skip
      refine aSeq ?_
      have hno : arcsB none l = false := by simpa using c15
      have hnl : rtsM l r = [] := by unfold rtsM; rw [hno]; rfl
      refine aReg ?_
      refine sp pM ?_
      refine sp (by first | exact pLm sl_41 | exact pLs sl_41 | exact pLv sl_41) ?_
      refine sp (pBl (by exact pB) (show _ = true from by rw [hnl]; rfl)) ?_
      refine sp pM ?_
      refine ga ?_
      refine (cv rfl rfl rfl (lents_refl _) law25_awake ?_).op
      refine sp pK ?_
      refine sp pMa ?_
      refine oNil ?_
      refine aRet ?_
      refine finIs rfl ?_
      rfl
    · skip
      refine aSkip ?_
      refine aSeq ?_
      have hyes : arcsB none l = true := by simpa using c15
      have he : rtsM l r = routesM l r := by unfold rtsM; rw [if_pos hyes]
      have hrl := rtsM_len l r
      refine aReg ?_
      refine sp pM ?_
      refine sp pM ?_
      refine sp pM ?_
      refine sa ?_
      first | refine coM rfl rfl rfl (ref25_Routes (l := l) (r := r) (by omega) (arcs_ok hyes)) (fun g25 k25 => ?_) | refine co rfl rfl rfl (ref25_Routes (l := l) (r := r) (by omega) (arcs_ok hyes)) (fun g25 k25 => ?_)
      refine sq ?_
      refine cv rfl rfl rfl (by repeat (first | exact .nil | refine .cons (.sl (by repeat (first | exact List.mem_cons_self | apply List.mem_cons_of_mem)) (by first | rfl | simp)) ?_ | refine .cons (.same _) ?_)) (ref25_Same (by omega) (by rw [← he]; omega)) ?_
      rw [show decide (rtsM l r = routesM l r) = true from decide_eq_true he]
      refine sp pM ?_
      refine ga ?_
      refine (cv rfl rfl rfl (lents_refl _) law25_awake ?_).op
      refine sp pK ?_
      refine sp pMa ?_
      refine oNil ?_
      refine aRet ?_
      refine finIs rfl ?_
      rfl

/- waymarklaw25.SpfTriangle -/
def law25_SpfTriangle_r1_T : Bool × List (List Nat × List Nat) := (true, [([], []), ([0], [0]), ([], []), ([2], [2]), ([], []), ([4], [4]), ([1, 0, 1], [1]), ([3, 6, 0, 1, 2, 3, 6], [3]), ([5, 7, 0, 1, 2, 3, 4, 5, 6, 7], [5])])
def law25_SpfTriangle_r1_B : List Nat := [0, 1, 0, 4, 0, 16, 3, 79, 255]
theorem law25_SpfTriangle_r1_t : Go.Proofs.YtmcannmjielalaaW.PrintLast.rtab .any (Go.Proofs.YtmcannmjielalaaW.PrintLast.opsOf Try.f6 1) = law25_SpfTriangle_r1_T := by kernel_rfl
theorem law25_SpfTriangle_r1_b : Go.Proofs.YtmcannmjielalaaW.PrintLast.waitsOk law25_SpfTriangle_r1_T.2 law25_SpfTriangle_r1_B = true := by kernel_rfl
def law25_SpfTriangle_r13_T : Bool × List (List Nat × List Nat) := (true, [([], []), ([], []), ([], []), ([1, 2], [1, 2]), ([3], [3]), ([4], [4]), ([], []), ([], []), ([6, 7], [6, 7]), ([8], [8]), ([9], [9]), ([0, 5, 10], [0, 5, 10]), ([11], [11]), ([12], [12]), ([12], [12]), ([13, 11, 0, 1, 2, 3, 4, 5, 6, 7, 8, 9, 10, 11, 12, 13], [13]), ([14, 15, 0, 1, 2, 3, 4, 5, 6, 7, 8, 9, 10, 11, 12, 13, 14, 15], [14])])
def law25_SpfTriangle_r13_B : List Nat := [0, 0, 0, 6, 14, 30, 0, 0, 192, 448, 960, 2047, 4095, 8191, 8191, 16383, 65535]
theorem law25_SpfTriangle_r13_t : Go.Proofs.YtmcannmjielalaaW.PrintLast.rtab .any (Go.Proofs.YtmcannmjielalaaW.PrintLast.opsOf Try.f6 13) = law25_SpfTriangle_r13_T := by kernel_rfl
theorem law25_SpfTriangle_r13_b : Go.Proofs.YtmcannmjielalaaW.PrintLast.waitsOk law25_SpfTriangle_r13_T.2 law25_SpfTriangle_r13_B = true := by kernel_rfl
def law25_SpfTriangle_r18_T : Bool × List (List Nat × List Nat) := (true, [([], []), ([], []), ([0, 1], [0, 1]), ([2], [2]), ([3], [3]), ([], []), ([4, 5], [4, 5]), ([6], [6]), ([7], [7]), ([7], [7]), ([8, 9, 7], [7, 8, 9]), ([10, 7], [7, 10]), ([11, 7], [7, 11]), ([7], [7]), ([7], [7]), ([13, 14, 7], [7, 13, 14]), ([15, 7], [7, 15]), ([16, 7], [7, 16]), ([12, 17, 7], [7, 12, 17]), ([7, 18], [7, 18])])
def law25_SpfTriangle_r18_B : List Nat := [0, 0, 3, 7, 15, 0, 63, 127, 255, 255, 1023, 2047, 4095, 255, 255, 24831, 57599, 123135, 262143, 524287]
theorem law25_SpfTriangle_r18_t : Go.Proofs.YtmcannmjielalaaW.PrintLast.rtab .any (Go.Proofs.YtmcannmjielalaaW.PrintLast.opsOf Try.f6 18) = law25_SpfTriangle_r18_T := by kernel_rfl
theorem law25_SpfTriangle_r18_b : Go.Proofs.YtmcannmjielalaaW.PrintLast.waitsOk law25_SpfTriangle_r18_T.2 law25_SpfTriangle_r18_B = true := by kernel_rfl
def law25_SpfTriangle_r20_T : Bool × List (List Nat × List Nat) := (true, [([], []), ([0], [0]), ([1], [1]), ([2], [2]), ([3, 2], [2, 3]), ([2, 4], [2, 4]), ([5, 2], [5]), ([6], [6]), ([6], [6]), ([7, 8, 6, 6], [6, 7, 8]), ([6], [6]), ([6], [6]), ([10, 11, 6], [6, 10, 11]), ([12, 6], [6, 12]), ([13, 6], [6, 13]), ([9, 14, 6], [6, 9, 14]), ([6, 15], [6, 15])])
def law25_SpfTriangle_r20_B : List Nat := [0, 1, 3, 7, 15, 31, 63, 127, 127, 511, 127, 127, 3199, 7295, 15487, 32767, 65535]
theorem law25_SpfTriangle_r20_t : Go.Proofs.YtmcannmjielalaaW.PrintLast.rtab .any (Go.Proofs.YtmcannmjielalaaW.PrintLast.opsOf Try.f6 20) = law25_SpfTriangle_r20_T := by kernel_rfl
theorem law25_SpfTriangle_r20_b : Go.Proofs.YtmcannmjielalaaW.PrintLast.waitsOk law25_SpfTriangle_r20_T.2 law25_SpfTriangle_r20_B = true := by kernel_rfl
set_option maxRecDepth 100000 in
set_option maxHeartbeats 2000000 in
theorem law25_SpfTriangle {l : List Arc} (a b c : Int) : Triple Try.prog 6 [.sl 3 (l.map arcC), .agg [.int a, .int b, .int c]] [] (Is (.v (.bool true)) []) := by
  refine triple_of Try.func6 rfl (by kernel_rfl) rfl (by simp) ?_
  refine aSeq ?_
  refine aReg ?_
  refine sq ?_
  refine qBox rfl rfl (by decide) rfl rfl (fun b3 => ?_)
  refine sp pMa ?_
  refine oNil ?_
  refine aSeq ?_
  refine aDrawT law25_SpfTriangle_r1_t law25_SpfTriangle_r1_b [] 9 #[false, false, false, false, false, false, false, false, false] (by kernel_rfl) rfl rfl (fun HT => ?_)
  refine dp HT 0 rfl (pIa ar_44) ?_
  refine dr HT 1 rfl (by first | exact rAr ty_3 | exact rArL ty_3 | exact rArR2 ty_3 | exact rB1 ty_3) ?_
  refine dp HT 2 rfl (pIa ar_44) ?_
  refine dr HT 3 rfl (by first | exact rAr ty_3 | exact rArL ty_3 | exact rArR2 ty_3 | exact rB1 ty_3) ?_
  refine dp HT 4 rfl (pIa ar_44) ?_
  refine dr HT 5 rfl (by first | exact rAr ty_3 | exact rArL ty_3 | exact rArR2 ty_3 | exact rB1 ty_3) ?_
  refine dp HT 6 rfl pMa ?_
  refine dp HT 7 rfl pMa ?_
  refine dp HT 8 rfl pMa ?_
  refine dE HT ?_
  clear HT
  refine aSeq ?_
  refine aSeq ?_
  refine aReg ?_
  refine sp pM ?_
  refine sq ?_
  refine cv rfl rfl rfl (lents_refl _) law25_light ?_
  refine sp pNo ?_
  refine sp pM ?_
  refine oSplitNot 29 rfl (fun c29 => ?_) (fun c29 => ?_)
  · skip
    refine gf ?_
    refine gf ?_
    refine gf ?_
    refine sp pK ?_
    refine sp pM ?_
    refine gf ?_
    refine gf ?_
    refine sp pK ?_
    refine sp pM ?_
    refine gf ?_
    refine gf ?_
    refine sp pK ?_
    refine sp pM ?_
    refine gf ?_
    refine gf ?_
    refine sp pK ?_
    refine sp pM ?_
    refine gf ?_
    refine gf ?_
    refine sp pK ?_
    refine sp pM ?_
    refine gf ?_
    refine gf ?_
    refine sp pK ?_
    refine sp pM ?_
    refine gf ?_
    refine gf ?_
    refine sp pK ?_
    refine oNil ?_
    refine aCondT rfl ?_
    refine aSeq ?_
    refine aReg ?_
    refine sq ?_
    refine cv rfl rfl rfl (lents_refl _) law25_awake ?_
    refine sp pMa ?_
    refine oNil ?_
    refine aRet ?_
    refine finIs rfl ?_
    rfl
  · skip
    refine gp pM ?_
    have hlen : l.length ≤ 120 := by simp_all
    refine ga ?_
    refine (cv rfl rfl rfl (lents_refl _) (ref24_May (by omega)) ?_).op
    refine gp pNo ?_
    refine sp pK ?_
    refine sp pM ?_
    refine oSplitNot 34 rfl (fun c34 => ?_) (fun c34 => ?_)
    · skip
      refine gf ?_
      refine gf ?_
      refine sp pK ?_
      refine sp pM ?_
      refine gf ?_
      refine gf ?_
      refine sp pK ?_
      refine sp pM ?_
      refine gf ?_
      refine gf ?_
      refine sp pK ?_
      refine sp pM ?_
      refine gf ?_
      refine gf ?_
      refine sp pK ?_
      refine sp pM ?_
      refine gf ?_
      refine gf ?_
      refine sp pK ?_
      refine sp pM ?_
      refine gf ?_
      refine gf ?_
      refine sp pK ?_
      refine oNil ?_
      refine aCondT rfl ?_
      refine aSeq ?_
      refine aReg ?_
      refine sq ?_
      refine cv rfl rfl rfl (lents_refl _) law25_awake ?_
      refine sp pMa ?_
      refine oNil ?_
      refine aRet ?_
      refine finIs rfl ?_
      rfl
    · skip
      refine gp pM ?_
      refine gp pB ?_
      refine sp pK ?_
      refine sp pM ?_
      refine oSplitDec 38 rfl (fun c38 => ?_) (fun c38 => ?_)
      · skip
        refine gf ?_
        refine gf ?_
        refine sp pK ?_
        refine sp pM ?_
        refine gf ?_
        refine gf ?_
        refine sp pK ?_
        refine sp pM ?_
        refine gf ?_
        refine gf ?_
        refine sp pK ?_
        refine sp pM ?_
        refine gf ?_
        refine gf ?_
        refine sp pK ?_
        refine sp pM ?_
        refine gf ?_
        refine gf ?_
        refine sp pK ?_
        refine oNil ?_
        refine aCondT rfl ?_
        refine aSeq ?_
        refine aReg ?_
        refine sq ?_
        refine cv rfl rfl rfl (lents_refl _) law25_awake ?_
        refine sp pMa ?_
        refine oNil ?_
        refine aRet ?_
        refine finIs rfl ?_
        rfl
      · skip
        refine gp pM ?_
        refine gp pB ?_
        refine sp pK ?_
        refine sp pM ?_
        refine oSplitDec 42 rfl (fun c42 => ?_) (fun c42 => ?_)
        · skip
          refine gf ?_
          refine gf ?_
          refine sp pK ?_
          refine sp pM ?_
          refine gf ?_
          refine gf ?_
          refine sp pK ?_
          refine sp pM ?_
          refine gf ?_
          refine gf ?_
          refine sp pK ?_
          refine sp pM ?_
          refine gf ?_
          refine gf ?_
          refine sp pK ?_
          refine oNil ?_
          refine aCondT rfl ?_
          refine aSeq ?_
          refine aReg ?_
          refine sq ?_
          refine cv rfl rfl rfl (lents_refl _) law25_awake ?_
          refine sp pMa ?_
          refine oNil ?_
          refine aRet ?_
          refine finIs rfl ?_
          rfl
        · skip
          refine gp pM ?_
          refine gp pB ?_
          refine sp pK ?_
          refine sp pM ?_
          refine oSplitDec 46 rfl (fun c46 => ?_) (fun c46 => ?_)
          · skip
            refine gf ?_
            refine gf ?_
            refine sp pK ?_
            refine sp pM ?_
            refine gf ?_
            refine gf ?_
            refine sp pK ?_
            refine sp pM ?_
            refine gf ?_
            refine gf ?_
            refine sp pK ?_
            refine oNil ?_
            refine aCondT rfl ?_
            refine aSeq ?_
            refine aReg ?_
            refine sq ?_
            refine cv rfl rfl rfl (lents_refl _) law25_awake ?_
            refine sp pMa ?_
            refine oNil ?_
            refine aRet ?_
            refine finIs rfl ?_
            rfl
          · skip
            refine gp pM ?_
            refine gp pB ?_
            refine sp pK ?_
            refine sp pM ?_
            refine oSplitDec 50 rfl (fun c50 => ?_) (fun c50 => ?_)
            · skip
              refine gf ?_
              refine gf ?_
              refine sp pK ?_
              refine sp pM ?_
              refine gf ?_
              refine gf ?_
              refine sp pK ?_
              refine oNil ?_
              refine aCondT rfl ?_
              refine aSeq ?_
              refine aReg ?_
              refine sq ?_
              refine cv rfl rfl rfl (lents_refl _) law25_awake ?_
              refine sp pMa ?_
              refine oNil ?_
              refine aRet ?_
              refine finIs rfl ?_
              rfl
            · skip
              refine gp pM ?_
              refine gp pB ?_
              refine sp pK ?_
              refine sp pM ?_
              refine oSplitDec 54 rfl (fun c54 => ?_) (fun c54 => ?_)
              · skip
                refine gf ?_
                refine gf ?_
                refine sp pK ?_
                refine oNil ?_
                refine aCondT rfl ?_
                refine aSeq ?_
                refine aReg ?_
                refine sq ?_
                refine cv rfl rfl rfl (lents_refl _) law25_awake ?_
                refine sp pMa ?_
                refine oNil ?_
                refine aRet ?_
                refine finIs rfl ?_
                rfl
              · skip
                refine gp pM ?_
                refine gp pB ?_
                refine sp pK ?_
                refine oNil ?_
                refine aCondDec rfl (fun c57 => ?_) (fun c57 => ?_)
                · skip
                  refine aSeq ?_
                  refine aReg ?_
                  refine sq ?_
                  refine cv rfl rfl rfl (lents_refl _) law25_awake ?_
                  refine sp pMa ?_
                  refine oNil ?_
                  refine aRet ?_
                  refine finIs rfl ?_
                  rfl
                · skip
                  refine aSkip ?_
                  refine aSeq ?_
                  have hlen : l.length ≤ 120 := by simp_all
                  have hyes : arcsB none l = true := by simp_all
                  have hd1 := dst_range (l := l) (by omega) a b
                  have hd2 := dst_range (l := l) (by omega) b c
                  have hd3 := dst_range (l := l) (by omega) a c
                  refine aReg ?_
                  refine sp pM ?_
                  refine sp pM ?_
                  refine sp pM ?_
                  refine sq ?_
                  refine ci rfl rfl rfl (spf_Distance (l := l) (a := a) (b := b) (by omega)) ?_
                  refine sp pM ?_
                  refine sp pX ?_
                  refine sp pX ?_
                  refine sp pMa ?_
                  refine sp pMa ?_
                  refine oNil ?_
                  refine aSeq ?_
                  refine aReg ?_
                  refine sp pM ?_
                  refine sp pM ?_
                  refine sp pM ?_
                  refine sq ?_
                  refine ci rfl rfl rfl (spf_Distance (l := l) (a := b) (b := c) (by omega)) ?_
                  refine sp pM ?_
                  refine sp pX ?_
                  refine sp pX ?_
                  refine sp pMa ?_
                  refine sp pMa ?_
                  refine oNil ?_
                  refine aSeq ?_
                  refine aReg ?_
                  refine sp pM ?_
                  refine sp pM ?_
                  refine sp pM ?_
                  refine sq ?_
                  refine ci rfl rfl rfl (spf_Distance (l := l) (a := a) (b := c) (by omega)) ?_
                  refine sp pM ?_
                  refine sp pX ?_
                  refine sp pX ?_
                  refine sp pMa ?_
                  refine sp pMa ?_
                  refine oNil ?_
                  refine aSeq ?_
                  refine aSeq ?_
                  refine aReg ?_
                  refine sp pM ?_
                  refine sp pM ?_
                  refine oSplit 81 rfl (fun c81 => ?_) (fun c81 => ?_)
                  · skip
                    refine gp pM ?_
                    refine sp pK ?_
                    refine sp pM ?_
                    refine oSplit 84 rfl (fun c84 => ?_) (fun c84 => ?_)
                    · skip
                      refine gp pM ?_
                      refine gp pNo ?_
                      refine gp pM ?_
                      refine oSplitNot 87 rfl (fun c87 => ?_) (fun c87 => ?_)
                      · skip
                        refine gf ?_
                        refine gf ?_
                        refine gf ?_
                        refine gf ?_
                        refine gf ?_
                        refine gp pK ?_
                        refine sp pK ?_
                        refine oNil ?_
                        refine aCondT rfl ?_
                        refine aSeq ?_
                        refine aReg ?_
                        refine sp pMa ?_
                        refine oNil ?_
                        refine aRet ?_
                        exfalso
                        have ht := dst_tri (l := l) (a := a) (b := b) (c := c) (by assumption) (by assumption)
                        first
                          | (have := ht.1; simp_all; done)
                          | (have := ht.2; omega)
                      · skip
                        refine gp pM ?_
                        refine gp pM ?_
                        refine gp pM ?_
                        refine ga ?_
                        refine (cv rfl rfl rfl (lents_refl _) (ref22_Add (by omega) (by omega) (by omega) (by omega)) ?_).op
                        rw [add_far (by omega)]
                        refine gp pB ?_
                        refine gp pK ?_
                        refine sp pK ?_
                        refine oNil ?_
                        refine aCondDec rfl (fun c94 => ?_) (fun c94 => ?_)
                        · skip
                          refine aSeq ?_
                          refine aReg ?_
                          refine sp pMa ?_
                          refine oNil ?_
                          refine aRet ?_
                          exfalso
                          have ht := dst_tri (l := l) (a := a) (b := b) (c := c) (by assumption) (by assumption)
                          first
                            | (have := ht.1; simp_all; done)
                            | (have := ht.2; omega)
                        · skip
                          refine aSkip ?_
                          refine aSeq ?_
                          have hrl := rtsM_len l a
                          refine aReg ?_
                          refine sp pM ?_
                          refine sp pM ?_
                          refine sq ?_
                          refine ci rfl rfl rfl (spf_Routes_s (l := l) (r := a) (by omega)) ?_
                          refine sp pMa ?_
                          refine oNil ?_
                          refine aSeq ?_
                          refine aSeq ?_
                          refine aReg ?_
                          refine sp pMa ?_
                          refine oNil ?_
                          refine aBlock ?_
                          refine loopF (α := Nat) (kept := [(0, _), (5, _), (14, _)]) (fun i => i ≤ (rtsM l a).length) (fun i => [(15, .int i)]) (fun i => []) (fun i => (rtsM l a).length - i) 0 ?_ ⟨gInt rfl (by first | rfl | omega | simp), rfl, rfl, rfl, trivial⟩ (by repeat constructor) ?_
                          · skip
                            omega
                          · rintro i hi
                            refine aSeq ?_
                            refine aSeq ?_
                            refine aReg ?_
                            refine sp pM ?_
                            refine sp pM ?_
                            refine sp (by first | exact pLm sl_41 | exact pLs sl_41 | exact pLv sl_41) ?_
                            refine sp pB ?_
                            refine oNil ?_
                            refine aCondDec rfl (fun c101 => ?_) (fun c101 => ?_)
                            · skip
                              refine aSkip ?_
                              refine aSeq ?_
                              refine aBlock ?_
                              refine aSeq ?_
                              obtain ⟨x, hx⟩ : ∃ z, (rtsM l a)[i]? = some z := ⟨_, List.getElem?_eq_getElem (by omega)⟩
                              obtain ⟨a0, ha0, hf0, ht0, hc1, hc2, hvb, hvm⟩ := rts_via (List.mem_of_getElem? hx)
                              have hd4 := dst_range (l := l) (by omega) x.via x.nd
                              refine aDrawT law25_SpfTriangle_r13_t law25_SpfTriangle_r13_b [] 17 #[false, false, false, false, false, false, false, false, false, false, false, false, false, false, false, false, false] (by kernel_rfl) rfl rfl (fun HT => ?_)
                              refine dp HT 0 rfl pM ?_
                              refine dp HT 1 rfl pM ?_
                              refine dp HT 2 rfl pM ?_
                              first | refine dp HT 3 rfl (pIx es_41) ?_ | (refine obtDN 106 107 rfl rfl (by omega) (fun x108 hx108 => ?_); refine dp HT 3 rfl (pIs es_41 hx108) ?_) | (refine obtD 106 107 rfl rfl (by omega) (by omega) (fun x108 hx108 => ?_); refine dp HT 3 rfl (pIs es_41 hx108) ?_) | refine dp HT 3 rfl (pIo es_41) ?_
                              refine dp HT 4 rfl (by first | exact pFb fd_49_1 | exact pFs fd_49_1) ?_
                              refine dr HT 5 rfl (by first | exact rS1 ty_3 | exact rB1 ty_3 | exact rAr ty_3 | exact rArL ty_3 | exact rArR2 ty_3) ?_
                              refine dp HT 6 rfl pM ?_
                              refine dp HT 7 rfl pM ?_
                              first | refine dp HT 8 rfl (pIx es_41) ?_ | (refine obtDN 111 112 rfl rfl (by omega) (fun x113 hx113 => ?_); refine dp HT 8 rfl (pIs es_41 hx113) ?_) | (refine obtD 111 112 rfl rfl (by omega) (by omega) (fun x113 hx113 => ?_); refine dp HT 8 rfl (pIs es_41 hx113) ?_) | refine dp HT 8 rfl (pIo es_41) ?_
                              refine dp HT 9 rfl (by first | exact pFb fd_49_0 | exact pFs fd_49_0) ?_
                              refine dr HT 10 rfl (by first | exact rS1 ty_3 | exact rB1 ty_3 | exact rAr ty_3 | exact rArL ty_3 | exact rArR2 ty_3) ?_
                              refine dGo ?_
                              refine e1 HT 11 rfl ?_
                              refine ci rfl rfl rfl (spf_Distance (l := l) (a := x.via) (b := x.nd) (by omega)) ?_
                              rw [hvb]
                              refine ef HT 12 rfl pM ?_
                              refine ef HT 13 rfl pX ?_
                              refine ef HT 14 rfl pX ?_
                              refine ef HT 15 rfl pMa ?_
                              refine ef HT 16 rfl pMa ?_
                              refine eE HT ?_
                              clear HT
                              refine aSeq ?_
                              refine aReg ?_
                              refine sp pMa ?_
                              refine oNil ?_
                              refine aSeq ?_
                              refine aSeq ?_
                              refine aReg ?_
                              refine sp pMa ?_
                              refine oNil ?_
                              refine aBlock ?_
                              refine loopF (α := Nat × Int) (kept := [(0, _), (5, _), (14, _), (15, _), (16, _), (17, _)]) (fun (k, v) => k ≤ l.length ∧ ArcV (l.take k) a x.via v) (fun (k, v) => [(19, .int k), (18, .v (.int .u64 v))]) (fun (k, v) => []) (fun (k, v) => l.length - k) (0, 0) ?_ ⟨gInt rfl (by first | rfl | omega | simp), rfl, rfl, rfl, rfl, rfl, rfl, rfl, trivial⟩ (by repeat constructor) ?_
                              · skip
                                exact ⟨by omega, fun y hy => by simp at hy⟩
                              · rintro ⟨k, v⟩ ⟨hk, hv⟩
                                refine aSeq ?_
                                refine aSeq ?_
                                refine aReg ?_
                                refine sp pM ?_
                                refine sp pM ?_
                                refine sp (by first | exact pLm sl_22 | exact pLs sl_22) ?_
                                refine sp pB ?_
                                refine oNil ?_
                                refine aCondDec rfl (fun c122 => ?_) (fun c122 => ?_)
                                · skip
                                  refine aSkip ?_
                                  refine aSeq ?_
                                  refine aBlock ?_
                                  refine aSeq ?_
                                  obtain ⟨y, hy⟩ : ∃ z, l[k]? = some z := ⟨_, List.getElem?_eq_getElem (by omega)⟩
                                  have hyk := arcs_ok hyes y (List.mem_of_getElem? hy)
                                  unfold AOk at hyk
                                  refine aDrawT law25_SpfTriangle_r18_t law25_SpfTriangle_r18_b [] 20 #[false, false, false, false, false, false, false, false, false, false, false, false, false, false, false, false, false, false, false, false] (by kernel_rfl) rfl rfl (fun HT => ?_)
                                  refine dp HT 0 rfl pM ?_
                                  refine dp HT 1 rfl pM ?_
                                  first | refine dp HT 2 rfl (pIx es_22) ?_ | (refine obtDN 125 126 rfl rfl (by omega) (fun x127 hx127 => ?_); refine dp HT 2 rfl (pIs es_22 hx127) ?_) | (refine obtD 125 126 rfl rfl (by omega) (by omega) (fun x127 hx127 => ?_); refine dp HT 2 rfl (pIs es_22 hx127) ?_) | refine dp HT 2 rfl (pIo es_22) ?_
                                  refine dp HT 3 rfl (pFs fd_36_0) ?_
                                  refine dr HT 4 rfl (rS1 ty_3) ?_
                                  refine dp HT 5 rfl pM ?_
                                  refine dp HT 6 rfl pB ?_
                                  refine dp HT 7 rfl pM ?_
                                  refine dSplitEq 132 rfl (fun c132 => ?_) (fun c132 => ?_)
                                  · skip
                                    refine dpG HT 8 rfl pM ?_
                                    refine dpG HT 9 rfl pM ?_
                                    first | refine dpG HT 10 rfl (pIx es_22) ?_ | (refine obtDN 133 134 rfl rfl (by omega) (fun x135 hx135 => ?_); refine dpG HT 10 rfl (pIs es_22 hx135) ?_) | (refine obtD 133 134 rfl rfl (by omega) (by omega) (fun x135 hx135 => ?_); refine dpG HT 10 rfl (pIs es_22 hx135) ?_) | refine dpG HT 10 rfl (pIo es_22) ?_
                                    refine dpG HT 11 rfl (pFs fd_36_1) ?_
                                    refine drG HT 12 rfl (rS1 ty_3) ?_
                                    refine dpG HT 13 rfl pM ?_
                                    refine dpG HT 14 rfl pM ?_
                                    first | refine dpG HT 15 rfl (pIx es_41) ?_ | (refine obtDN 138 139 rfl rfl (by omega) (fun x140 hx140 => ?_); refine dpG HT 15 rfl (pIs es_41 hx140) ?_) | (refine obtD 138 139 rfl rfl (by omega) (by omega) (fun x140 hx140 => ?_); refine dpG HT 15 rfl (pIs es_41 hx140) ?_) | refine dpG HT 15 rfl (pIo es_41) ?_
                                    refine dpG HT 16 rfl (by first | exact pFb fd_49_1 | exact pFs fd_49_1) ?_
                                    refine drG HT 17 rfl (by first | exact rS1 ty_3 | exact rB1 ty_3 | exact rAr ty_3 | exact rArL ty_3 | exact rArR2 ty_3) ?_
                                    refine dpG HT 18 rfl pB ?_
                                    refine dp HT 19 rfl pK ?_
                                    refine dE HT ?_
                                    clear HT
                                    refine aCondEq rfl (fun c144 => ?_) (fun c144 => ?_)
                                    · skip
                                      refine aReg ?_
                                      refine sp pM ?_
                                      refine sp pM ?_
                                      first | refine sp (pIx es_22) ?_ | (refine obtSN 145 146 rfl rfl (by omega) (fun x147 hx147 => ?_); refine sp (pIs es_22 hx147) ?_) | (refine obtS 145 146 rfl rfl (by omega) (by omega) (fun x147 hx147 => ?_); refine sp (pIs es_22 hx147) ?_) | refine sp (pIo es_22) ?_
                                      refine sp (pFs fd_36_2) ?_
                                      refine sr (rS1 ty_3) ?_
                                      refine sp (by first | exact pCvK ik_3 ik_37 | exact pConv rfl rfl ik_3 ik_37 rfl) ?_
                                      refine sp pMa ?_
                                      refine oNil ?_
                                      refine aReg ?_
                                      refine sp pM ?_
                                      refine sp pAd ?_
                                      refine sp pMa ?_
                                      refine oNil ?_
                                      refine ⟨(k + 1, _), ?_, by (try dsimp only); omega, ⟨gInt rfl (by first | rfl | omega | simp), rfl, rfl, rfl, rfl, rfl, rfl, rfl, trivial⟩, _, (by repeat constructor)⟩
                                      refine ⟨by omega, ?_⟩
                                      rw [take_step hy]
                                      first
                                        | exact hv.yes hyes (fun z hz => List.mem_of_mem_take hz) (List.mem_of_getElem? hy) (by assumption) (by assumption)
                                        | exact hv.no (fun e => by omega)
                                    · skip
                                      refine aSkip ?_
                                      refine aReg ?_
                                      refine sp pM ?_
                                      refine sp pAd ?_
                                      refine sp pMa ?_
                                      refine oNil ?_
                                      refine ⟨(k + 1, _), ?_, by (try dsimp only); omega, ⟨gInt rfl (by first | rfl | omega | simp), rfl, rfl, rfl, rfl, rfl, rfl, rfl, trivial⟩, _, (by repeat constructor)⟩
                                      refine ⟨by omega, ?_⟩
                                      rw [take_step hy]
                                      first
                                        | exact hv.yes hyes (fun z hz => List.mem_of_mem_take hz) (List.mem_of_getElem? hy) (by assumption) (by assumption)
                                        | exact hv.no (fun e => by omega)
                                  · skip
                                    refine dS HT 8 rfl ?_
                                    refine dS HT 9 rfl ?_
                                    refine dS HT 10 rfl ?_
                                    refine dS HT 11 rfl ?_
                                    refine dS HT 12 rfl ?_
                                    refine dS HT 13 rfl ?_
                                    refine dS HT 14 rfl ?_
                                    refine dS HT 15 rfl ?_
                                    refine dS HT 16 rfl ?_
                                    refine dS HT 17 rfl ?_
                                    refine dS HT 18 rfl ?_
                                    refine dp HT 19 rfl pK ?_
                                    refine dE HT ?_
                                    clear HT
                                    refine aCondF rfl ?_
                                    refine aSkip ?_
                                    refine aReg ?_
                                    refine sp pM ?_
                                    refine sp pAd ?_
                                    refine sp pMa ?_
                                    refine oNil ?_
                                    refine ⟨(k + 1, _), ?_, by (try dsimp only); omega, ⟨gInt rfl (by first | rfl | omega | simp), rfl, rfl, rfl, rfl, rfl, rfl, rfl, trivial⟩, _, (by repeat constructor)⟩
                                    refine ⟨by omega, ?_⟩
                                    rw [take_step hy]
                                    first
                                      | exact hv.yes hyes (fun z hz => List.mem_of_mem_take hz) (List.mem_of_getElem? hy) (by assumption) (by assumption)
                                      | exact hv.no (fun e => by omega)
                                · skip
                                  refine aExit rfl ?_
                                  refine aSeq ?_
                                  rw [take_all (by omega)] at hv
                                  have hva := hv a0 ha0 hf0 ht0
                                  refine aDrawT law25_SpfTriangle_r20_t law25_SpfTriangle_r20_b [] 17 #[false, false, false, false, false, false, false, false, false, false, false, false, false, false, false, false, false] (by kernel_rfl) rfl rfl (fun HT => ?_)
                                  refine dp HT 0 rfl pM ?_
                                  refine dp HT 1 rfl pNo ?_
                                  refine dp HT 2 rfl pM ?_
                                  refine dSplitNot 153 rfl (fun c153 => ?_) (fun c153 => ?_)
                                  · skip
                                    refine dS HT 3 rfl ?_
                                    refine dS HT 4 rfl ?_
                                    refine dp HT 5 rfl pK ?_
                                    refine dp HT 6 rfl pM ?_
                                    refine dS HT 7 rfl ?_
                                    refine dS HT 8 rfl ?_
                                    refine dS HT 9 rfl ?_
                                    refine dS HT 10 rfl ?_
                                    refine dS HT 11 rfl ?_
                                    refine dS HT 12 rfl ?_
                                    refine dS HT 13 rfl ?_
                                    refine dS HT 14 rfl ?_
                                    refine dS HT 15 rfl ?_
                                    refine dp HT 16 rfl pK ?_
                                    refine dE HT ?_
                                    clear HT
                                    refine aCondT rfl ?_
                                    refine aSeq ?_
                                    refine aReg ?_
                                    refine sp pMa ?_
                                    refine oNil ?_
                                    refine aRet ?_
                                    exfalso
                                    first | omega | (simp_all; done) | (simp_all; omega)
                                  · skip
                                    refine dpG HT 3 rfl pM ?_
                                    refine dpG HT 4 rfl pB ?_
                                    refine dp HT 5 rfl pK ?_
                                    refine dp HT 6 rfl pM ?_
                                    refine dSplitEq 157 rfl (fun c157 => ?_) (fun c157 => ?_)
                                    · skip
                                      refine dS HT 7 rfl ?_
                                      refine dS HT 8 rfl ?_
                                      refine dS HT 9 rfl ?_
                                      refine dS HT 10 rfl ?_
                                      refine dS HT 11 rfl ?_
                                      refine dS HT 12 rfl ?_
                                      refine dS HT 13 rfl ?_
                                      refine dS HT 14 rfl ?_
                                      refine dS HT 15 rfl ?_
                                      refine dp HT 16 rfl pK ?_
                                      refine dE HT ?_
                                      clear HT
                                      refine aCondT rfl ?_
                                      refine aSeq ?_
                                      refine aReg ?_
                                      refine sp pMa ?_
                                      refine oNil ?_
                                      refine aRet ?_
                                      exfalso
                                      first | omega | (simp_all; done) | (simp_all; omega)
                                    · skip
                                      refine dpG HT 7 rfl pM ?_
                                      refine dpG HT 8 rfl pM ?_
                                      refine dpG HT 10 rfl pM ?_
                                      refine dpG HT 11 rfl pM ?_
                                      first | refine dpG HT 12 rfl (pIx es_41) ?_ | (refine obtDN 161 162 rfl rfl (by omega) (fun x163 hx163 => ?_); refine dpG HT 12 rfl (pIs es_41 hx163) ?_) | (refine obtD 161 162 rfl rfl (by omega) (by omega) (fun x163 hx163 => ?_); refine dpG HT 12 rfl (pIs es_41 hx163) ?_) | refine dpG HT 12 rfl (pIo es_41) ?_
                                      refine dpG HT 13 rfl (by first | exact pFb fd_49_2 | exact pFs fd_49_2) ?_
                                      refine drG HT 14 rfl (by first | exact rS1 ty_37 | exact rB1 ty_37 | exact rAr ty_37 | exact rArL ty_37 | exact rArR2 ty_37) ?_
                                      refine dGo ?_
                                      refine e1G HT 9 rfl ?_
                                      refine cv rfl rfl rfl (lents_refl _) (ref22_Add (by omega) (by omega) (by omega) (by omega)) ?_
                                      rw [add_far (by omega)]
                                      refine efG HT 15 rfl pB ?_
                                      refine ef HT 16 rfl pK ?_
                                      refine eE HT ?_
                                      clear HT
                                      refine aCondNe rfl (fun c167 => ?_) (fun c167 => ?_)
                                      · skip
                                        refine aSeq ?_
                                        refine aReg ?_
                                        refine sp pMa ?_
                                        refine oNil ?_
                                        refine aRet ?_
                                        exfalso
                                        first | omega | (simp_all; done) | (simp_all; omega)
                                      · skip
                                        refine aSkip ?_
                                        refine aReg ?_
                                        refine sp pM ?_
                                        refine sp pAd ?_
                                        refine sp pMa ?_
                                        refine oNil ?_
                                        refine ⟨i + 1, ?_, by (try dsimp only); omega, ⟨gInt rfl (by first | rfl | omega | simp), rfl, rfl, rfl, trivial⟩, _, (by repeat constructor)⟩
                                        omega
                            · skip
                              refine aExit rfl ?_
                              refine aSeq ?_
                              refine aReg ?_
                              refine sq ?_
                              refine cv rfl rfl rfl (lents_refl _) law25_awake ?_
                              refine sp pMa ?_
                              refine oNil ?_
                              refine aRet ?_
                              refine finIs rfl ?_
                              rfl
                    · skip
                      refine gf ?_
                      refine gf ?_
                      refine gf ?_
                      refine gf ?_
                      refine gf ?_
                      refine gf ?_
                      refine gf ?_
                      refine gf ?_
                      refine gf ?_
                      refine sp pK ?_
                      refine oNil ?_
                      refine aCondF rfl ?_
                      refine aSkip ?_
                      refine aSeq ?_
                      have hrl := rtsM_len l a
                      refine aReg ?_
                      refine sp pM ?_
                      refine sp pM ?_
                      refine sq ?_
                      refine ci rfl rfl rfl (spf_Routes_s (l := l) (r := a) (by omega)) ?_
                      refine sp pMa ?_
                      refine oNil ?_
                      refine aSeq ?_
                      refine aSeq ?_
                      refine aReg ?_
                      refine sp pMa ?_
                      refine oNil ?_
                      refine aBlock ?_
                      refine loopF (α := Nat) (kept := [(0, _), (5, _), (14, _)]) (fun i => i ≤ (rtsM l a).length) (fun i => [(15, .int i)]) (fun i => []) (fun i => (rtsM l a).length - i) 0 ?_ ⟨gInt rfl (by first | rfl | omega | simp), rfl, rfl, rfl, trivial⟩ (by repeat constructor) ?_
                      · skip
                        omega
                      · rintro i hi
                        refine aSeq ?_
                        refine aSeq ?_
                        refine aReg ?_
                        refine sp pM ?_
                        refine sp pM ?_
                        refine sp (by first | exact pLm sl_41 | exact pLs sl_41 | exact pLv sl_41) ?_
                        refine sp pB ?_
                        refine oNil ?_
                        refine aCondDec rfl (fun c101 => ?_) (fun c101 => ?_)
                        · skip
                          refine aSkip ?_
                          refine aSeq ?_
                          refine aBlock ?_
                          refine aSeq ?_
                          obtain ⟨x, hx⟩ : ∃ z, (rtsM l a)[i]? = some z := ⟨_, List.getElem?_eq_getElem (by omega)⟩
                          obtain ⟨a0, ha0, hf0, ht0, hc1, hc2, hvb, hvm⟩ := rts_via (List.mem_of_getElem? hx)
                          have hd4 := dst_range (l := l) (by omega) x.via x.nd
                          refine aDrawT law25_SpfTriangle_r13_t law25_SpfTriangle_r13_b [] 17 #[false, false, false, false, false, false, false, false, false, false, false, false, false, false, false, false, false] (by kernel_rfl) rfl rfl (fun HT => ?_)
                          refine dp HT 0 rfl pM ?_
                          refine dp HT 1 rfl pM ?_
                          refine dp HT 2 rfl pM ?_
                          first | refine dp HT 3 rfl (pIx es_41) ?_ | (refine obtDN 106 107 rfl rfl (by omega) (fun x108 hx108 => ?_); refine dp HT 3 rfl (pIs es_41 hx108) ?_) | (refine obtD 106 107 rfl rfl (by omega) (by omega) (fun x108 hx108 => ?_); refine dp HT 3 rfl (pIs es_41 hx108) ?_) | refine dp HT 3 rfl (pIo es_41) ?_
                          refine dp HT 4 rfl (by first | exact pFb fd_49_1 | exact pFs fd_49_1) ?_
                          refine dr HT 5 rfl (by first | exact rS1 ty_3 | exact rB1 ty_3 | exact rAr ty_3 | exact rArL ty_3 | exact rArR2 ty_3) ?_
                          refine dp HT 6 rfl pM ?_
                          refine dp HT 7 rfl pM ?_
                          first | refine dp HT 8 rfl (pIx es_41) ?_ | (refine obtDN 111 112 rfl rfl (by omega) (fun x113 hx113 => ?_); refine dp HT 8 rfl (pIs es_41 hx113) ?_) | (refine obtD 111 112 rfl rfl (by omega) (by omega) (fun x113 hx113 => ?_); refine dp HT 8 rfl (pIs es_41 hx113) ?_) | refine dp HT 8 rfl (pIo es_41) ?_
                          refine dp HT 9 rfl (by first | exact pFb fd_49_0 | exact pFs fd_49_0) ?_
                          refine dr HT 10 rfl (by first | exact rS1 ty_3 | exact rB1 ty_3 | exact rAr ty_3 | exact rArL ty_3 | exact rArR2 ty_3) ?_
                          refine dGo ?_
                          refine e1 HT 11 rfl ?_
                          refine ci rfl rfl rfl (spf_Distance (l := l) (a := x.via) (b := x.nd) (by omega)) ?_
                          rw [hvb]
                          refine ef HT 12 rfl pM ?_
                          refine ef HT 13 rfl pX ?_
                          refine ef HT 14 rfl pX ?_
                          refine ef HT 15 rfl pMa ?_
                          refine ef HT 16 rfl pMa ?_
                          refine eE HT ?_
                          clear HT
                          refine aSeq ?_
                          refine aReg ?_
                          refine sp pMa ?_
                          refine oNil ?_
                          refine aSeq ?_
                          refine aSeq ?_
                          refine aReg ?_
                          refine sp pMa ?_
                          refine oNil ?_
                          refine aBlock ?_
                          refine loopF (α := Nat × Int) (kept := [(0, _), (5, _), (14, _), (15, _), (16, _), (17, _)]) (fun (k, v) => k ≤ l.length ∧ ArcV (l.take k) a x.via v) (fun (k, v) => [(19, .int k), (18, .v (.int .u64 v))]) (fun (k, v) => []) (fun (k, v) => l.length - k) (0, 0) ?_ ⟨gInt rfl (by first | rfl | omega | simp), rfl, rfl, rfl, rfl, rfl, rfl, rfl, trivial⟩ (by repeat constructor) ?_
                          · skip
                            exact ⟨by omega, fun y hy => by simp at hy⟩
                          · rintro ⟨k, v⟩ ⟨hk, hv⟩
                            refine aSeq ?_
                            refine aSeq ?_
                            refine aReg ?_
                            refine sp pM ?_
                            refine sp pM ?_
                            refine sp (by first | exact pLm sl_22 | exact pLs sl_22) ?_
                            refine sp pB ?_
                            refine oNil ?_
                            refine aCondDec rfl (fun c122 => ?_) (fun c122 => ?_)
                            · skip
                              refine aSkip ?_
                              refine aSeq ?_
                              refine aBlock ?_
                              refine aSeq ?_
                              obtain ⟨y, hy⟩ : ∃ z, l[k]? = some z := ⟨_, List.getElem?_eq_getElem (by omega)⟩
                              have hyk := arcs_ok hyes y (List.mem_of_getElem? hy)
                              unfold AOk at hyk
                              refine aDrawT law25_SpfTriangle_r18_t law25_SpfTriangle_r18_b [] 20 #[false, false, false, false, false, false, false, false, false, false, false, false, false, false, false, false, false, false, false, false] (by kernel_rfl) rfl rfl (fun HT => ?_)
                              refine dp HT 0 rfl pM ?_
                              refine dp HT 1 rfl pM ?_
                              first | refine dp HT 2 rfl (pIx es_22) ?_ | (refine obtDN 125 126 rfl rfl (by omega) (fun x127 hx127 => ?_); refine dp HT 2 rfl (pIs es_22 hx127) ?_) | (refine obtD 125 126 rfl rfl (by omega) (by omega) (fun x127 hx127 => ?_); refine dp HT 2 rfl (pIs es_22 hx127) ?_) | refine dp HT 2 rfl (pIo es_22) ?_
                              refine dp HT 3 rfl (pFs fd_36_0) ?_
                              refine dr HT 4 rfl (rS1 ty_3) ?_
                              refine dp HT 5 rfl pM ?_
                              refine dp HT 6 rfl pB ?_
                              refine dp HT 7 rfl pM ?_
                              refine dSplitEq 132 rfl (fun c132 => ?_) (fun c132 => ?_)
                              · skip
                                refine dpG HT 8 rfl pM ?_
                                refine dpG HT 9 rfl pM ?_
                                first | refine dpG HT 10 rfl (pIx es_22) ?_ | (refine obtDN 133 134 rfl rfl (by omega) (fun x135 hx135 => ?_); refine dpG HT 10 rfl (pIs es_22 hx135) ?_) | (refine obtD 133 134 rfl rfl (by omega) (by omega) (fun x135 hx135 => ?_); refine dpG HT 10 rfl (pIs es_22 hx135) ?_) | refine dpG HT 10 rfl (pIo es_22) ?_
                                refine dpG HT 11 rfl (pFs fd_36_1) ?_
                                refine drG HT 12 rfl (rS1 ty_3) ?_
                                refine dpG HT 13 rfl pM ?_
                                refine dpG HT 14 rfl pM ?_
                                first | refine dpG HT 15 rfl (pIx es_41) ?_ | (refine obtDN 138 139 rfl rfl (by omega) (fun x140 hx140 => ?_); refine dpG HT 15 rfl (pIs es_41 hx140) ?_) | (refine obtD 138 139 rfl rfl (by omega) (by omega) (fun x140 hx140 => ?_); refine dpG HT 15 rfl (pIs es_41 hx140) ?_) | refine dpG HT 15 rfl (pIo es_41) ?_
                                refine dpG HT 16 rfl (by first | exact pFb fd_49_1 | exact pFs fd_49_1) ?_
                                refine drG HT 17 rfl (by first | exact rS1 ty_3 | exact rB1 ty_3 | exact rAr ty_3 | exact rArL ty_3 | exact rArR2 ty_3) ?_
                                refine dpG HT 18 rfl pB ?_
                                refine dp HT 19 rfl pK ?_
                                refine dE HT ?_
                                clear HT
                                refine aCondEq rfl (fun c144 => ?_) (fun c144 => ?_)
                                · skip
                                  refine aReg ?_
                                  refine sp pM ?_
                                  refine sp pM ?_
                                  first | refine sp (pIx es_22) ?_ | (refine obtSN 145 146 rfl rfl (by omega) (fun x147 hx147 => ?_); refine sp (pIs es_22 hx147) ?_) | (refine obtS 145 146 rfl rfl (by omega) (by omega) (fun x147 hx147 => ?_); refine sp (pIs es_22 hx147) ?_) | refine sp (pIo es_22) ?_
                                  refine sp (pFs fd_36_2) ?_
                                  refine sr (rS1 ty_3) ?_
                                  refine sp (by first | exact pCvK ik_3 ik_37 | exact pConv rfl rfl ik_3 ik_37 rfl) ?_
                                  refine sp pMa ?_
                                  refine oNil ?_
                                  refine aReg ?_
                                  refine sp pM ?_
                                  refine sp pAd ?_
                                  refine sp pMa ?_
                                  refine oNil ?_
                                  refine ⟨(k + 1, _), ?_, by (try dsimp only); omega, ⟨gInt rfl (by first | rfl | omega | simp), rfl, rfl, rfl, rfl, rfl, rfl, rfl, trivial⟩, _, (by repeat constructor)⟩
                                  refine ⟨by omega, ?_⟩
                                  rw [take_step hy]
                                  first
                                    | exact hv.yes hyes (fun z hz => List.mem_of_mem_take hz) (List.mem_of_getElem? hy) (by assumption) (by assumption)
                                    | exact hv.no (fun e => by omega)
                                · skip
                                  refine aSkip ?_
                                  refine aReg ?_
                                  refine sp pM ?_
                                  refine sp pAd ?_
                                  refine sp pMa ?_
                                  refine oNil ?_
                                  refine ⟨(k + 1, _), ?_, by (try dsimp only); omega, ⟨gInt rfl (by first | rfl | omega | simp), rfl, rfl, rfl, rfl, rfl, rfl, rfl, trivial⟩, _, (by repeat constructor)⟩
                                  refine ⟨by omega, ?_⟩
                                  rw [take_step hy]
                                  first
                                    | exact hv.yes hyes (fun z hz => List.mem_of_mem_take hz) (List.mem_of_getElem? hy) (by assumption) (by assumption)
                                    | exact hv.no (fun e => by omega)
                              · skip
                                refine dS HT 8 rfl ?_
                                refine dS HT 9 rfl ?_
                                refine dS HT 10 rfl ?_
                                refine dS HT 11 rfl ?_
                                refine dS HT 12 rfl ?_
                                refine dS HT 13 rfl ?_
                                refine dS HT 14 rfl ?_
                                refine dS HT 15 rfl ?_
                                refine dS HT 16 rfl ?_
                                refine dS HT 17 rfl ?_
                                refine dS HT 18 rfl ?_
                                refine dp HT 19 rfl pK ?_
                                refine dE HT ?_
                                clear HT
                                refine aCondF rfl ?_
                                refine aSkip ?_
                                refine aReg ?_
                                refine sp pM ?_
                                refine sp pAd ?_
                                refine sp pMa ?_
                                refine oNil ?_
                                refine ⟨(k + 1, _), ?_, by (try dsimp only); omega, ⟨gInt rfl (by first | rfl | omega | simp), rfl, rfl, rfl, rfl, rfl, rfl, rfl, trivial⟩, _, (by repeat constructor)⟩
                                refine ⟨by omega, ?_⟩
                                rw [take_step hy]
                                first
                                  | exact hv.yes hyes (fun z hz => List.mem_of_mem_take hz) (List.mem_of_getElem? hy) (by assumption) (by assumption)
                                  | exact hv.no (fun e => by omega)
                            · skip
                              refine aExit rfl ?_
                              refine aSeq ?_
                              rw [take_all (by omega)] at hv
                              have hva := hv a0 ha0 hf0 ht0
                              refine aDrawT law25_SpfTriangle_r20_t law25_SpfTriangle_r20_b [] 17 #[false, false, false, false, false, false, false, false, false, false, false, false, false, false, false, false, false] (by kernel_rfl) rfl rfl (fun HT => ?_)
                              refine dp HT 0 rfl pM ?_
                              refine dp HT 1 rfl pNo ?_
                              refine dp HT 2 rfl pM ?_
                              refine dSplitNot 153 rfl (fun c153 => ?_) (fun c153 => ?_)
                              · skip
                                refine dS HT 3 rfl ?_
                                refine dS HT 4 rfl ?_
                                refine dp HT 5 rfl pK ?_
                                refine dp HT 6 rfl pM ?_
                                refine dS HT 7 rfl ?_
                                refine dS HT 8 rfl ?_
                                refine dS HT 9 rfl ?_
                                refine dS HT 10 rfl ?_
                                refine dS HT 11 rfl ?_
                                refine dS HT 12 rfl ?_
                                refine dS HT 13 rfl ?_
                                refine dS HT 14 rfl ?_
                                refine dS HT 15 rfl ?_
                                refine dp HT 16 rfl pK ?_
                                refine dE HT ?_
                                clear HT
                                refine aCondT rfl ?_
                                refine aSeq ?_
                                refine aReg ?_
                                refine sp pMa ?_
                                refine oNil ?_
                                refine aRet ?_
                                exfalso
                                first | omega | (simp_all; done) | (simp_all; omega)
                              · skip
                                refine dpG HT 3 rfl pM ?_
                                refine dpG HT 4 rfl pB ?_
                                refine dp HT 5 rfl pK ?_
                                refine dp HT 6 rfl pM ?_
                                refine dSplitEq 157 rfl (fun c157 => ?_) (fun c157 => ?_)
                                · skip
                                  refine dS HT 7 rfl ?_
                                  refine dS HT 8 rfl ?_
                                  refine dS HT 9 rfl ?_
                                  refine dS HT 10 rfl ?_
                                  refine dS HT 11 rfl ?_
                                  refine dS HT 12 rfl ?_
                                  refine dS HT 13 rfl ?_
                                  refine dS HT 14 rfl ?_
                                  refine dS HT 15 rfl ?_
                                  refine dp HT 16 rfl pK ?_
                                  refine dE HT ?_
                                  clear HT
                                  refine aCondT rfl ?_
                                  refine aSeq ?_
                                  refine aReg ?_
                                  refine sp pMa ?_
                                  refine oNil ?_
                                  refine aRet ?_
                                  exfalso
                                  first | omega | (simp_all; done) | (simp_all; omega)
                                · skip
                                  refine dpG HT 7 rfl pM ?_
                                  refine dpG HT 8 rfl pM ?_
                                  refine dpG HT 10 rfl pM ?_
                                  refine dpG HT 11 rfl pM ?_
                                  first | refine dpG HT 12 rfl (pIx es_41) ?_ | (refine obtDN 161 162 rfl rfl (by omega) (fun x163 hx163 => ?_); refine dpG HT 12 rfl (pIs es_41 hx163) ?_) | (refine obtD 161 162 rfl rfl (by omega) (by omega) (fun x163 hx163 => ?_); refine dpG HT 12 rfl (pIs es_41 hx163) ?_) | refine dpG HT 12 rfl (pIo es_41) ?_
                                  refine dpG HT 13 rfl (by first | exact pFb fd_49_2 | exact pFs fd_49_2) ?_
                                  refine drG HT 14 rfl (by first | exact rS1 ty_37 | exact rB1 ty_37 | exact rAr ty_37 | exact rArL ty_37 | exact rArR2 ty_37) ?_
                                  refine dGo ?_
                                  refine e1G HT 9 rfl ?_
                                  refine cv rfl rfl rfl (lents_refl _) (ref22_Add (by omega) (by omega) (by omega) (by omega)) ?_
                                  rw [add_far (by omega)]
                                  refine efG HT 15 rfl pB ?_
                                  refine ef HT 16 rfl pK ?_
                                  refine eE HT ?_
                                  clear HT
                                  refine aCondNe rfl (fun c167 => ?_) (fun c167 => ?_)
                                  · skip
                                    refine aSeq ?_
                                    refine aReg ?_
                                    refine sp pMa ?_
                                    refine oNil ?_
                                    refine aRet ?_
                                    exfalso
                                    first | omega | (simp_all; done) | (simp_all; omega)
                                  · skip
                                    refine aSkip ?_
                                    refine aReg ?_
                                    refine sp pM ?_
                                    refine sp pAd ?_
                                    refine sp pMa ?_
                                    refine oNil ?_
                                    refine ⟨i + 1, ?_, by (try dsimp only); omega, ⟨gInt rfl (by first | rfl | omega | simp), rfl, rfl, rfl, trivial⟩, _, (by repeat constructor)⟩
                                    omega
                        · skip
                          refine aExit rfl ?_
                          refine aSeq ?_
                          refine aReg ?_
                          refine sq ?_
                          refine cv rfl rfl rfl (lents_refl _) law25_awake ?_
                          refine sp pMa ?_
                          refine oNil ?_
                          refine aRet ?_
                          refine finIs rfl ?_
                          rfl
                  · skip
                    refine gf ?_
                    refine sp pK ?_
                    refine sp pM ?_
                    refine gf ?_
                    refine gf ?_
                    refine gf ?_
                    refine gf ?_
                    refine gf ?_
                    refine gf ?_
                    refine gf ?_
                    refine gf ?_
                    refine gf ?_
                    refine sp pK ?_
                    refine oNil ?_
                    refine aCondF rfl ?_
                    refine aSkip ?_
                    refine aSeq ?_
                    have hrl := rtsM_len l a
                    refine aReg ?_
                    refine sp pM ?_
                    refine sp pM ?_
                    refine sq ?_
                    refine ci rfl rfl rfl (spf_Routes_s (l := l) (r := a) (by omega)) ?_
                    refine sp pMa ?_
                    refine oNil ?_
                    refine aSeq ?_
                    refine aSeq ?_
                    refine aReg ?_
                    refine sp pMa ?_
                    refine oNil ?_
                    refine aBlock ?_
                    refine loopF (α := Nat) (kept := [(0, _), (5, _), (14, _)]) (fun i => i ≤ (rtsM l a).length) (fun i => [(15, .int i)]) (fun i => []) (fun i => (rtsM l a).length - i) 0 ?_ ⟨gInt rfl (by first | rfl | omega | simp), rfl, rfl, rfl, trivial⟩ (by repeat constructor) ?_
                    · skip
                      omega
                    · rintro i hi
                      refine aSeq ?_
                      refine aSeq ?_
                      refine aReg ?_
                      refine sp pM ?_
                      refine sp pM ?_
                      refine sp (by first | exact pLm sl_41 | exact pLs sl_41 | exact pLv sl_41) ?_
                      refine sp pB ?_
                      refine oNil ?_
                      refine aCondDec rfl (fun c101 => ?_) (fun c101 => ?_)
                      · skip
                        refine aSkip ?_
                        refine aSeq ?_
                        refine aBlock ?_
                        refine aSeq ?_
                        obtain ⟨x, hx⟩ : ∃ z, (rtsM l a)[i]? = some z := ⟨_, List.getElem?_eq_getElem (by omega)⟩
                        obtain ⟨a0, ha0, hf0, ht0, hc1, hc2, hvb, hvm⟩ := rts_via (List.mem_of_getElem? hx)
                        have hd4 := dst_range (l := l) (by omega) x.via x.nd
                        refine aDrawT law25_SpfTriangle_r13_t law25_SpfTriangle_r13_b [] 17 #[false, false, false, false, false, false, false, false, false, false, false, false, false, false, false, false, false] (by kernel_rfl) rfl rfl (fun HT => ?_)
                        refine dp HT 0 rfl pM ?_
                        refine dp HT 1 rfl pM ?_
                        refine dp HT 2 rfl pM ?_
                        first | refine dp HT 3 rfl (pIx es_41) ?_ | (refine obtDN 106 107 rfl rfl (by omega) (fun x108 hx108 => ?_); refine dp HT 3 rfl (pIs es_41 hx108) ?_) | (refine obtD 106 107 rfl rfl (by omega) (by omega) (fun x108 hx108 => ?_); refine dp HT 3 rfl (pIs es_41 hx108) ?_) | refine dp HT 3 rfl (pIo es_41) ?_
                        refine dp HT 4 rfl (by first | exact pFb fd_49_1 | exact pFs fd_49_1) ?_
                        refine dr HT 5 rfl (by first | exact rS1 ty_3 | exact rB1 ty_3 | exact rAr ty_3 | exact rArL ty_3 | exact rArR2 ty_3) ?_
                        refine dp HT 6 rfl pM ?_
                        refine dp HT 7 rfl pM ?_
                        first | refine dp HT 8 rfl (pIx es_41) ?_ | (refine obtDN 111 112 rfl rfl (by omega) (fun x113 hx113 => ?_); refine dp HT 8 rfl (pIs es_41 hx113) ?_) | (refine obtD 111 112 rfl rfl (by omega) (by omega) (fun x113 hx113 => ?_); refine dp HT 8 rfl (pIs es_41 hx113) ?_) | refine dp HT 8 rfl (pIo es_41) ?_
                        refine dp HT 9 rfl (by first | exact pFb fd_49_0 | exact pFs fd_49_0) ?_
                        refine dr HT 10 rfl (by first | exact rS1 ty_3 | exact rB1 ty_3 | exact rAr ty_3 | exact rArL ty_3 | exact rArR2 ty_3) ?_
                        refine dGo ?_
                        refine e1 HT 11 rfl ?_
                        refine ci rfl rfl rfl (spf_Distance (l := l) (a := x.via) (b := x.nd) (by omega)) ?_
                        rw [hvb]
                        refine ef HT 12 rfl pM ?_
                        refine ef HT 13 rfl pX ?_
                        refine ef HT 14 rfl pX ?_
                        refine ef HT 15 rfl pMa ?_
                        refine ef HT 16 rfl pMa ?_
                        refine eE HT ?_
                        clear HT
                        refine aSeq ?_
                        refine aReg ?_
                        refine sp pMa ?_
                        refine oNil ?_
                        refine aSeq ?_
                        refine aSeq ?_
                        refine aReg ?_
                        refine sp pMa ?_
                        refine oNil ?_
                        refine aBlock ?_
                        refine loopF (α := Nat × Int) (kept := [(0, _), (5, _), (14, _), (15, _), (16, _), (17, _)]) (fun (k, v) => k ≤ l.length ∧ ArcV (l.take k) a x.via v) (fun (k, v) => [(19, .int k), (18, .v (.int .u64 v))]) (fun (k, v) => []) (fun (k, v) => l.length - k) (0, 0) ?_ ⟨gInt rfl (by first | rfl | omega | simp), rfl, rfl, rfl, rfl, rfl, rfl, rfl, trivial⟩ (by repeat constructor) ?_
                        · skip
                          exact ⟨by omega, fun y hy => by simp at hy⟩
                        · rintro ⟨k, v⟩ ⟨hk, hv⟩
                          refine aSeq ?_
                          refine aSeq ?_
                          refine aReg ?_
                          refine sp pM ?_
                          refine sp pM ?_
                          refine sp (by first | exact pLm sl_22 | exact pLs sl_22) ?_
                          refine sp pB ?_
                          refine oNil ?_
                          refine aCondDec rfl (fun c122 => ?_) (fun c122 => ?_)
                          · skip
                            refine aSkip ?_
                            refine aSeq ?_
                            refine aBlock ?_
                            refine aSeq ?_
                            obtain ⟨y, hy⟩ : ∃ z, l[k]? = some z := ⟨_, List.getElem?_eq_getElem (by omega)⟩
                            have hyk := arcs_ok hyes y (List.mem_of_getElem? hy)
                            unfold AOk at hyk
                            refine aDrawT law25_SpfTriangle_r18_t law25_SpfTriangle_r18_b [] 20 #[false, false, false, false, false, false, false, false, false, false, false, false, false, false, false, false, false, false, false, false] (by kernel_rfl) rfl rfl (fun HT => ?_)
                            refine dp HT 0 rfl pM ?_
                            refine dp HT 1 rfl pM ?_
                            first | refine dp HT 2 rfl (pIx es_22) ?_ | (refine obtDN 125 126 rfl rfl (by omega) (fun x127 hx127 => ?_); refine dp HT 2 rfl (pIs es_22 hx127) ?_) | (refine obtD 125 126 rfl rfl (by omega) (by omega) (fun x127 hx127 => ?_); refine dp HT 2 rfl (pIs es_22 hx127) ?_) | refine dp HT 2 rfl (pIo es_22) ?_
                            refine dp HT 3 rfl (pFs fd_36_0) ?_
                            refine dr HT 4 rfl (rS1 ty_3) ?_
                            refine dp HT 5 rfl pM ?_
                            refine dp HT 6 rfl pB ?_
                            refine dp HT 7 rfl pM ?_
                            refine dSplitEq 132 rfl (fun c132 => ?_) (fun c132 => ?_)
                            · skip
                              refine dpG HT 8 rfl pM ?_
                              refine dpG HT 9 rfl pM ?_
                              first | refine dpG HT 10 rfl (pIx es_22) ?_ | (refine obtDN 133 134 rfl rfl (by omega) (fun x135 hx135 => ?_); refine dpG HT 10 rfl (pIs es_22 hx135) ?_) | (refine obtD 133 134 rfl rfl (by omega) (by omega) (fun x135 hx135 => ?_); refine dpG HT 10 rfl (pIs es_22 hx135) ?_) | refine dpG HT 10 rfl (pIo es_22) ?_
                              refine dpG HT 11 rfl (pFs fd_36_1) ?_
                              refine drG HT 12 rfl (rS1 ty_3) ?_
                              refine dpG HT 13 rfl pM ?_
                              refine dpG HT 14 rfl pM ?_
                              first | refine dpG HT 15 rfl (pIx es_41) ?_ | (refine obtDN 138 139 rfl rfl (by omega) (fun x140 hx140 => ?_); refine dpG HT 15 rfl (pIs es_41 hx140) ?_) | (refine obtD 138 139 rfl rfl (by omega) (by omega) (fun x140 hx140 => ?_); refine dpG HT 15 rfl (pIs es_41 hx140) ?_) | refine dpG HT 15 rfl (pIo es_41) ?_
                              refine dpG HT 16 rfl (by first | exact pFb fd_49_1 | exact pFs fd_49_1) ?_
                              refine drG HT 17 rfl (by first | exact rS1 ty_3 | exact rB1 ty_3 | exact rAr ty_3 | exact rArL ty_3 | exact rArR2 ty_3) ?_
                              refine dpG HT 18 rfl pB ?_
                              refine dp HT 19 rfl pK ?_
                              refine dE HT ?_
                              clear HT
                              refine aCondEq rfl (fun c144 => ?_) (fun c144 => ?_)
                              · skip
                                refine aReg ?_
                                refine sp pM ?_
                                refine sp pM ?_
                                first | refine sp (pIx es_22) ?_ | (refine obtSN 145 146 rfl rfl (by omega) (fun x147 hx147 => ?_); refine sp (pIs es_22 hx147) ?_) | (refine obtS 145 146 rfl rfl (by omega) (by omega) (fun x147 hx147 => ?_); refine sp (pIs es_22 hx147) ?_) | refine sp (pIo es_22) ?_
                                refine sp (pFs fd_36_2) ?_
                                refine sr (rS1 ty_3) ?_
                                refine sp (by first | exact pCvK ik_3 ik_37 | exact pConv rfl rfl ik_3 ik_37 rfl) ?_
                                refine sp pMa ?_
                                refine oNil ?_
                                refine aReg ?_
                                refine sp pM ?_
                                refine sp pAd ?_
                                refine sp pMa ?_
                                refine oNil ?_
                                refine ⟨(k + 1, _), ?_, by (try dsimp only); omega, ⟨gInt rfl (by first | rfl | omega | simp), rfl, rfl, rfl, rfl, rfl, rfl, rfl, trivial⟩, _, (by repeat constructor)⟩
                                refine ⟨by omega, ?_⟩
                                rw [take_step hy]
                                first
                                  | exact hv.yes hyes (fun z hz => List.mem_of_mem_take hz) (List.mem_of_getElem? hy) (by assumption) (by assumption)
                                  | exact hv.no (fun e => by omega)
                              · skip
                                refine aSkip ?_
                                refine aReg ?_
                                refine sp pM ?_
                                refine sp pAd ?_
                                refine sp pMa ?_
                                refine oNil ?_
                                refine ⟨(k + 1, _), ?_, by (try dsimp only); omega, ⟨gInt rfl (by first | rfl | omega | simp), rfl, rfl, rfl, rfl, rfl, rfl, rfl, trivial⟩, _, (by repeat constructor)⟩
                                refine ⟨by omega, ?_⟩
                                rw [take_step hy]
                                first
                                  | exact hv.yes hyes (fun z hz => List.mem_of_mem_take hz) (List.mem_of_getElem? hy) (by assumption) (by assumption)
                                  | exact hv.no (fun e => by omega)
                            · skip
                              refine dS HT 8 rfl ?_
                              refine dS HT 9 rfl ?_
                              refine dS HT 10 rfl ?_
                              refine dS HT 11 rfl ?_
                              refine dS HT 12 rfl ?_
                              refine dS HT 13 rfl ?_
                              refine dS HT 14 rfl ?_
                              refine dS HT 15 rfl ?_
                              refine dS HT 16 rfl ?_
                              refine dS HT 17 rfl ?_
                              refine dS HT 18 rfl ?_
                              refine dp HT 19 rfl pK ?_
                              refine dE HT ?_
                              clear HT
                              refine aCondF rfl ?_
                              refine aSkip ?_
                              refine aReg ?_
                              refine sp pM ?_
                              refine sp pAd ?_
                              refine sp pMa ?_
                              refine oNil ?_
                              refine ⟨(k + 1, _), ?_, by (try dsimp only); omega, ⟨gInt rfl (by first | rfl | omega | simp), rfl, rfl, rfl, rfl, rfl, rfl, rfl, trivial⟩, _, (by repeat constructor)⟩
                              refine ⟨by omega, ?_⟩
                              rw [take_step hy]
                              first
                                | exact hv.yes hyes (fun z hz => List.mem_of_mem_take hz) (List.mem_of_getElem? hy) (by assumption) (by assumption)
                                | exact hv.no (fun e => by omega)
                          · skip
                            refine aExit rfl ?_
                            refine aSeq ?_
                            rw [take_all (by omega)] at hv
                            have hva := hv a0 ha0 hf0 ht0
                            refine aDrawT law25_SpfTriangle_r20_t law25_SpfTriangle_r20_b [] 17 #[false, false, false, false, false, false, false, false, false, false, false, false, false, false, false, false, false] (by kernel_rfl) rfl rfl (fun HT => ?_)
                            refine dp HT 0 rfl pM ?_
                            refine dp HT 1 rfl pNo ?_
                            refine dp HT 2 rfl pM ?_
                            refine dSplitNot 153 rfl (fun c153 => ?_) (fun c153 => ?_)
                            · skip
                              refine dS HT 3 rfl ?_
                              refine dS HT 4 rfl ?_
                              refine dp HT 5 rfl pK ?_
                              refine dp HT 6 rfl pM ?_
                              refine dS HT 7 rfl ?_
                              refine dS HT 8 rfl ?_
                              refine dS HT 9 rfl ?_
                              refine dS HT 10 rfl ?_
                              refine dS HT 11 rfl ?_
                              refine dS HT 12 rfl ?_
                              refine dS HT 13 rfl ?_
                              refine dS HT 14 rfl ?_
                              refine dS HT 15 rfl ?_
                              refine dp HT 16 rfl pK ?_
                              refine dE HT ?_
                              clear HT
                              refine aCondT rfl ?_
                              refine aSeq ?_
                              refine aReg ?_
                              refine sp pMa ?_
                              refine oNil ?_
                              refine aRet ?_
                              exfalso
                              first | omega | (simp_all; done) | (simp_all; omega)
                            · skip
                              refine dpG HT 3 rfl pM ?_
                              refine dpG HT 4 rfl pB ?_
                              refine dp HT 5 rfl pK ?_
                              refine dp HT 6 rfl pM ?_
                              refine dSplitEq 157 rfl (fun c157 => ?_) (fun c157 => ?_)
                              · skip
                                refine dS HT 7 rfl ?_
                                refine dS HT 8 rfl ?_
                                refine dS HT 9 rfl ?_
                                refine dS HT 10 rfl ?_
                                refine dS HT 11 rfl ?_
                                refine dS HT 12 rfl ?_
                                refine dS HT 13 rfl ?_
                                refine dS HT 14 rfl ?_
                                refine dS HT 15 rfl ?_
                                refine dp HT 16 rfl pK ?_
                                refine dE HT ?_
                                clear HT
                                refine aCondT rfl ?_
                                refine aSeq ?_
                                refine aReg ?_
                                refine sp pMa ?_
                                refine oNil ?_
                                refine aRet ?_
                                exfalso
                                first | omega | (simp_all; done) | (simp_all; omega)
                              · skip
                                refine dpG HT 7 rfl pM ?_
                                refine dpG HT 8 rfl pM ?_
                                refine dpG HT 10 rfl pM ?_
                                refine dpG HT 11 rfl pM ?_
                                first | refine dpG HT 12 rfl (pIx es_41) ?_ | (refine obtDN 161 162 rfl rfl (by omega) (fun x163 hx163 => ?_); refine dpG HT 12 rfl (pIs es_41 hx163) ?_) | (refine obtD 161 162 rfl rfl (by omega) (by omega) (fun x163 hx163 => ?_); refine dpG HT 12 rfl (pIs es_41 hx163) ?_) | refine dpG HT 12 rfl (pIo es_41) ?_
                                refine dpG HT 13 rfl (by first | exact pFb fd_49_2 | exact pFs fd_49_2) ?_
                                refine drG HT 14 rfl (by first | exact rS1 ty_37 | exact rB1 ty_37 | exact rAr ty_37 | exact rArL ty_37 | exact rArR2 ty_37) ?_
                                refine dGo ?_
                                refine e1G HT 9 rfl ?_
                                refine cv rfl rfl rfl (lents_refl _) (ref22_Add (by omega) (by omega) (by omega) (by omega)) ?_
                                rw [add_far (by omega)]
                                refine efG HT 15 rfl pB ?_
                                refine ef HT 16 rfl pK ?_
                                refine eE HT ?_
                                clear HT
                                refine aCondNe rfl (fun c167 => ?_) (fun c167 => ?_)
                                · skip
                                  refine aSeq ?_
                                  refine aReg ?_
                                  refine sp pMa ?_
                                  refine oNil ?_
                                  refine aRet ?_
                                  exfalso
                                  first | omega | (simp_all; done) | (simp_all; omega)
                                · skip
                                  refine aSkip ?_
                                  refine aReg ?_
                                  refine sp pM ?_
                                  refine sp pAd ?_
                                  refine sp pMa ?_
                                  refine oNil ?_
                                  refine ⟨i + 1, ?_, by (try dsimp only); omega, ⟨gInt rfl (by first | rfl | omega | simp), rfl, rfl, rfl, trivial⟩, _, (by repeat constructor)⟩
                                  omega
                      · skip
                        refine aExit rfl ?_
                        refine aSeq ?_
                        refine aReg ?_
                        refine sq ?_
                        refine cv rfl rfl rfl (lents_refl _) law25_awake ?_
                        refine sp pMa ?_
                        refine oNil ?_
                        refine aRet ?_
                        refine finIs rfl ?_
                        rfl

end A
end Go.Proofs.Ytmcannmjielalaa
