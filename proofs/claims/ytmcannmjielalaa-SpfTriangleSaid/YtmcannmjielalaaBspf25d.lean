/- What functions of the program compute: spf25d -/
import Derived.Test.YtmcannmjielalaaBspf25c
import Derived.Test.YtmcannmjielalaaProg
import Derived.KernelRfl
set_option linter.unusedVariables false
set_option linter.unusedSimpArgs false
namespace Go.Proofs.Ytmcannmjielalaa
namespace A

theorem ar_174 : arrOf Try.prog 174 = some (65, 130) := by kernel_rfl
theorem eq_49 : eqType Try.prog 49 = some [(0, .i), (1, .i), (2, .i)] := by kernel_rfl
theorem es_41 : elemSize Try.prog 41 = some 3 := by kernel_rfl
theorem ty_174 : tyOf Try.prog 174 = some (8450, true) := by kernel_rfl
theorem ua_174 : Try.prog.underlying 174 = some (.array 65 172) := by kernel_rfl
theorem ze_174 : zeroOf Try.prog 174 = some (.agg Try.zeroCells174) := by kernel_rfl
def dstB (l : List Arc) (a b : Int) : Bool := arcsB none l && isF l a b
def dstM (l : List Arc) (a b : Int) : Int := if dstB l a b then dF l a b else 0
def rtsM (l : List Arc) (r : Int) : List Rt := if arcsB none l then routesM l r else []
theorem spf_Routes_s {l : List Arc} {r : Int} (hll : l.length ≤ 400000 := by omega) : Triple Try.prog 43 [.sl 3 (l.map arcC), .int r] [] (Is (.sl 3 ((rtsM l r).map rtC)) []) := (spf_Routes (l := l) (r := r) hll).settle
theorem routesM_eq (l : List Arc) (r : Int) : routesM l r = (rKeys l r).map fun v => ⟨v, viaM l r v, dF l r v⟩ := rfl
theorem rtsM_len (l : List Arc) (r : Int) : (rtsM l r).length ≤ 65 := by
  unfold rtsM
  split
  · rw [routesM_eq, List.length_map]; exact rKeys_len l r
  · simp
theorem rtsM_mem {l : List Arc} {r : Int} {x : Rt} (h : x ∈ rtsM l r) : arcsB none l = true ∧ x.nd ≠ r ∧ isF l r x.nd = true ∧ x = ⟨x.nd, viaM l r x.nd, dF l r x.nd⟩ := by
  unfold rtsM at h
  split at h
  · rename_i hok
    rw [routesM_eq, List.mem_map] at h
    obtain ⟨v, hv, rfl⟩ := h
    have := (rKeys_mem (arcs_ok hok)).1 hv
    exact ⟨hok, this.1, this.2, rfl⟩
  · simp at h
theorem rtsM_of {l : List Arc} {r v : Int} (hok : arcsB none l = true) (h1 : v ≠ r) (h2 : isF l r v = true) : (⟨v, viaM l r v, dF l r v⟩ : Rt) ∈ rtsM l r := by
  unfold rtsM
  rw [if_pos hok, routesM_eq, List.mem_map]
  exact ⟨v, (rKeys_mem (arcs_ok hok)).2 ⟨h1, h2⟩, rfl⟩
theorem dst_self {l : List Arc} {a : Int} : dstB l a a = (arcsB none l && (decide (1 ≤ a) && decide (a ≤ 64))) ∧ dstM l a a = 0 := by
  unfold dstM dstB
  cases hok : arcsB none l with
  | false => simp
  | true =>
    by_cases hr : 1 ≤ a ∧ a ≤ 64
    · have := dF_root (arcs_ok hok) hr.1 hr.2
      simp [this, hr]
    · have := isF_none (arcs_ok hok) hr a
      simp only [this, Bool.and_false, Bool.true_and, Bool.false_eq_true, if_false, and_true]
      symm
      simp only [Bool.and_eq_false_iff, decide_eq_false_iff_not]
      omega

/- spf.Distance -/
set_option maxRecDepth 100000 in
set_option maxHeartbeats 1000000 in
theorem spf_Distance {l : List Arc} {a b : Int} (hll : l.length ≤ 400000 := by omega) : Triple Try.prog 46 [.sl 3 (l.map arcC), .int a, .int b] [] (Is (.tup [.v (.int .u64 (dstM l a b)), .v (.bool (dstB l a b))]) []) := by
  refine triple_of Try.func46 rfl (by kernel_rfl) rfl (by simp) ?_
  refine aSeq ?_
  refine aReg ?_
  refine sp pMa ?_
  refine sp pMa ?_
  refine oNil ?_
  refine aSeq ?_
  refine aSeq ?_
  refine aReg ?_
  refine sp pM ?_
  refine sp pM ?_
  refine sp pB ?_
  refine oNil ?_
  refine aCondEq rfl (fun c12 => ?_) (fun c12 => ?_)
  · skip
    refine aSeq ?_
    refine aReg ?_
    refine sp pM ?_
    refine sq ?_
    refine cv rfl rfl rfl (lents_refl _) graph_Check ?_
    refine sp pB ?_
    refine sp pM ?_
    refine oSplitEq 16 rfl (fun c16 => ?_) (fun c16 => ?_)
    · skip
      refine gp pM ?_
      refine gp pB ?_
      refine sp pK ?_
      refine sp pM ?_
      refine oSplitDec 20 rfl (fun c20 => ?_) (fun c20 => ?_)
      · skip
        refine gp pM ?_
        refine gp pB ?_
        refine sp pK ?_
        refine sp pMa ?_
        refine sp pMa ?_
        refine oNil ?_
        refine aRet ?_
        refine finIs rfl ?_
        obtain rfl : a = b := by assumption
        rw [dst_self.1, dst_self.2]
        simp_all [retOf]
        all_goals omega
      · skip
        refine gf ?_
        refine gf ?_
        refine sp pK ?_
        refine sp pMa ?_
        refine sp pMa ?_
        refine oNil ?_
        refine aRet ?_
        refine finIs rfl ?_
        obtain rfl : a = b := by assumption
        rw [dst_self.1, dst_self.2]
        simp_all [retOf]
        all_goals omega
    · skip
      refine gf ?_
      refine gf ?_
      refine sp pK ?_
      refine sp pM ?_
      refine gf ?_
      refine gf ?_
      refine sp pK ?_
      refine sp pMa ?_
      refine sp pMa ?_
      refine oNil ?_
      refine aRet ?_
      refine finIs rfl ?_
      obtain rfl : a = b := by assumption
      rw [dst_self.1, dst_self.2]
      simp_all [retOf]
      all_goals omega
  · skip
    refine aSkip ?_
    refine aSeq ?_
    refine aSeq ?_
    have hrl := rtsM_len l a
    refine aReg ?_
    refine sp pM ?_
    refine sp pM ?_
    refine sq ?_
    refine ci rfl rfl rfl (spf_Routes_s (l := l) (r := a) hll) ?_
    refine sp (by first | exact pLm sl_41 | exact pLs sl_41 | exact pLv sl_41) ?_
    refine sp pM ?_
    refine oNil ?_
    refine aBlock ?_
    refine loopF (α := Nat) (kept := [(2, _), (26, _), (27, _)]) (fun i => i ≤ (rtsM l a).length ∧ ∀ y ∈ (rtsM l a).take i, y.nd ≠ b) (fun i => [(28, .int i)]) (fun i => []) (fun i => (rtsM l a).length - i) 0 ?_ ⟨gInt rfl (by first | rfl | omega | simp), rfl, rfl, rfl, trivial⟩ (by repeat constructor) ?_
    · skip
      exact ⟨by omega, fun y hy => by simp at hy⟩
    · rintro i ⟨hi, hv⟩
      refine aSeq ?_
      refine aReg ?_
      refine sp pB ?_
      refine oNil ?_
      refine aSeq ?_
      refine aCondDec rfl (fun c29 => ?_) (fun c29 => ?_)
      · skip
        refine aSkip ?_
        refine aSeq ?_
        refine aBlock ?_
        refine aSeq ?_
        obtain ⟨x, hx⟩ : ∃ z, (rtsM l a)[i]? = some z := ⟨_, List.getElem?_eq_getElem (by omega)⟩
        have hxm := rtsM_mem (List.mem_of_getElem? hx)
        refine aReg ?_
        first | refine sp (pIx es_41) ?_ | (refine obtSN 26 28 rfl rfl (by omega) (fun x30 hx30 => ?_); refine sp (pIs es_41 hx30) ?_) | (refine obtS 26 28 rfl rfl (by omega) (by omega) (fun x30 hx30 => ?_); refine sp (pIs es_41 hx30) ?_) | refine sp (pIo es_41) ?_
        refine sr (by first | exact rSW ty_49 rfl | exact rSA ty_49 | exact rBWa ty_49 | exact rBW ty_49 | exact rBA ty_49 | exact rArA ty_49 (fun _ => rfl)) ?_
        refine sq ?_
        refine qAlloc rfl rfl (by decide) ze_49 rfl (fun b9 => ?_)
        refine sa ?_
        refine oStW rfl rfl rfl rfl (by repeat constructor) ty_49 ?_
        refine oNil ?_
        refine aSeq ?_
        refine aReg ?_
        refine sp (pFb fd_49_0) ?_
        refine sr (rB1 ty_3) ?_
        refine sp pM ?_
        refine sp pB ?_
        refine oNil ?_
        refine aCondEq rfl (fun c35 => ?_) (fun c35 => ?_)
        · skip
          refine aSeq ?_
          refine aReg ?_
          refine sp (pFb fd_49_2) ?_
          refine sr (rB1 ty_37) ?_
          refine sp pMa ?_
          refine sp pMa ?_
          refine oNil ?_
          refine aRet ?_
          refine finIs rfl ?_
          obtain ⟨h1, h2, h3, h4⟩ := hxm
          have hb : x.nd = b := by assumption
          rw [hb] at h3 h4
          have hd : dstB l a b = true := by unfold dstB; rw [h1, h3]; rfl
          unfold dstM
          rw [hd, if_pos rfl, h4]
          rfl
        · skip
          refine aSkip ?_
          refine aReg ?_
          refine sp pAd ?_
          refine sp pM ?_
          refine oNil ?_
          refine ⟨i + 1, ?_, by (try dsimp only); omega, ⟨gInt rfl (by first | rfl | omega | simp), rfl, rfl, rfl, trivial⟩, _, (by repeat constructor)⟩
          refine ⟨by omega, fun y hy => ?_⟩
          rw [take_step hx] at hy
          rcases List.mem_append.1 hy with hy | hy
          · exact hv y hy
          · rw [List.mem_singleton.1 hy]; assumption
      · skip
        refine aExit rfl ?_
        refine aSeq ?_
        refine aReg ?_
        refine sp pMa ?_
        refine sp pMa ?_
        refine oNil ?_
        refine aRet ?_
        refine finIs rfl ?_
        rw [take_all (by omega)] at hv
        have hd : dstB l a b = false := by
          cases hd : dstB l a b with
          | false => rfl
          | true =>
            unfold dstB at hd
            rw [Bool.and_eq_true] at hd
            have hne : a ≠ b := by assumption
            exact absurd rfl (hv _ (rtsM_of hd.1 (fun e => hne e.symm) hd.2))
        unfold dstM
        rw [hd]
        rfl

/- waymarkref25.Same -/
def ref25_Same_r6_T : Bool × List (List Nat × List Nat) := (true, [([], []), ([], []), ([0, 1], [0, 1]), ([2], [2]), ([], []), ([], []), ([4, 5], [4, 5]), ([6], [6]), ([3, 7], [3, 7])])
def ref25_Same_r6_B : List Nat := [0, 0, 3, 7, 0, 0, 48, 112, 255]
theorem ref25_Same_r6_t : Go.Proofs.YtmcannmjielalaaW.PrintLast.rtab .any (Go.Proofs.YtmcannmjielalaaW.PrintLast.opsOf Try.f44 6) = ref25_Same_r6_T := by kernel_rfl
theorem ref25_Same_r6_b : Go.Proofs.YtmcannmjielalaaW.PrintLast.waitsOk ref25_Same_r6_T.2 ref25_Same_r6_B = true := by kernel_rfl
set_option maxRecDepth 100000 in
set_option maxHeartbeats 400000 in
theorem ref25_Same {a b : List Rt} (ha : a.length < 9223372036854775807 := by omega) (hb : b.length < 9223372036854775807 := by omega) : Triple Try.prog 44 [.sl 3 (a.map rtC), .sl 3 (b.map rtC)] [] (Is (.v (.bool (decide (a = b)))) []) := by
  refine triple_of Try.func44 rfl (by kernel_rfl) rfl (by simp) ?_
  refine aSeq ?_
  refine aReg ?_
  refine sp pMa ?_
  refine oNil ?_
  refine aSeq ?_
  refine aSeq ?_
  refine aReg ?_
  refine sp pM ?_
  refine sp (by first | exact pLm sl_41 | exact pLs sl_41) ?_
  refine sp pM ?_
  refine sp (by first | exact pLm sl_41 | exact pLs sl_41) ?_
  refine sp pB ?_
  refine oNil ?_
  refine aCondNe rfl (fun c10 => ?_) (fun c10 => ?_)
  · skip
    refine aSeq ?_
    refine aReg ?_
    refine sp pMa ?_
    refine oNil ?_
    refine aRet ?_
    refine finIs rfl ?_
    rw [decide_eq_false (fun e => by subst e; simp at c10)]
    rfl
  · skip
    refine aSkip ?_
    refine aSeq ?_
    refine aSeq ?_
    refine aReg ?_
    refine sp pMa ?_
    refine oNil ?_
    refine aBlock ?_
    refine loopF (α := Nat) (kept := [(0, _), (1, _)]) (fun i => i ≤ a.length ∧ a.length = b.length ∧ a.take i = b.take i) (fun i => [(5, .int i)]) (fun i => []) (fun i => a.length - i) 0 ?_ ⟨gInt rfl (by first | rfl | omega | simp), rfl, rfl, trivial⟩ (by repeat constructor) ?_
    · skip
      exact ⟨by omega, by omega, rfl⟩
    · rintro i ⟨hi, hl, hv⟩
      refine aSeq ?_
      refine aSeq ?_
      refine aReg ?_
      refine sp pM ?_
      refine sp pM ?_
      refine sp (by first | exact pLm sl_41 | exact pLs sl_41) ?_
      refine sp pB ?_
      refine oNil ?_
      refine aCondDec rfl (fun c14 => ?_) (fun c14 => ?_)
      · skip
        refine aSkip ?_
        refine aSeq ?_
        refine aBlock ?_
        refine aSeq ?_
        refine aDrawT ref25_Same_r6_t ref25_Same_r6_b [] 9 #[false, false, false, false, false, false, false, false, false] (by kernel_rfl) rfl rfl (fun HT => ?_)
        refine dp HT 0 rfl pM ?_
        refine dp HT 1 rfl pM ?_
        first | refine dp HT 2 rfl (pIx es_41) ?_ | (refine obtDN 17 18 rfl rfl (by omega) (fun x19 hx19 => ?_); refine dp HT 2 rfl (pIs es_41 hx19) ?_) | (refine obtD 17 18 rfl rfl (by omega) (by omega) (fun x19 hx19 => ?_); refine dp HT 2 rfl (pIs es_41 hx19) ?_) | refine dp HT 2 rfl (pIo es_41) ?_
        refine dr HT 3 rfl (by first | exact rSW ty_49 rfl | exact rSA ty_49) ?_
        refine dp HT 4 rfl pM ?_
        refine dp HT 5 rfl pM ?_
        first | refine dp HT 6 rfl (pIx es_41) ?_ | (refine obtDN 21 22 rfl rfl (by omega) (fun x23 hx23 => ?_); refine dp HT 6 rfl (pIs es_41 hx23) ?_) | (refine obtD 21 22 rfl rfl (by omega) (by omega) (fun x23 hx23 => ?_); refine dp HT 6 rfl (pIs es_41 hx23) ?_) | refine dp HT 6 rfl (pIo es_41) ?_
        refine dr HT 7 rfl (by first | exact rSW ty_49 rfl | exact rSA ty_49) ?_
        refine dp HT 8 rfl (pEqAn eq_49) ?_
        refine dE HT ?_
        clear HT
        refine aCond rfl (fun c25 => ?_) (fun c25 => ?_)
        · skip
          refine aSeq ?_
          refine aReg ?_
          refine sp pMa ?_
          refine oNil ?_
          refine aRet ?_
          refine finIs rfl ?_
          rw [decide_eq_false (fun e => by subst e; obtain rfl := Option.some.inj (hx19.symm.trans hx23); simp at c25)]
          rfl
        · skip
          refine aSkip ?_
          refine aReg ?_
          refine sp pM ?_
          refine sp pAd ?_
          refine sp pMa ?_
          refine oNil ?_
          refine ⟨i + 1, ?_, by (try dsimp only); omega, ⟨gInt rfl (by first | rfl | omega | simp), rfl, rfl, trivial⟩, _, (by repeat constructor)⟩
          have hxy : x19 = x23 := by
            cases x19
            cases x23
            simp_all
          exact ⟨by omega, hl, by rw [take_step hx19, take_step hx23, hv, hxy]⟩
      · skip
        refine aExit rfl ?_
        refine aSeq ?_
        refine aReg ?_
        refine sp pMa ?_
        refine oNil ?_
        refine aRet ?_
        refine finIs rfl ?_
        rw [take_all (by omega), take_all (by omega)] at hv
        rw [decide_eq_true hv]
        rfl

theorem viaDrop {l : List Arc} {r v : Int} {j : Nat} {a : Arc} (h : l[j]? = some a) : (((l.drop j).find? (viaP l r v)).map (·.t)).getD 0 = if viaP l r v a then a.t else (((l.drop (j + 1)).find? (viaP l r v)).map (·.t)).getD 0 := by
  rw [drop_step h, List.find?_cons]
  cases viaP l r v a <;> rfl
theorem rts_step {l : List Arc} {r : Int} {n : Nat} : ((List.range (n + 1 + 1)).map fun (i : Nat) => (i : Int)).filter (fun v => decide (v ≠ r) && isF l r v) = ((List.range (n + 1)).map fun (i : Nat) => (i : Int)).filter (fun v => decide (v ≠ r) && isF l r v) ++ if decide (((n + 1 : Nat) : Int) ≠ r) && isF l r ((n + 1 : Nat) : Int) then [((n + 1 : Nat) : Int)] else [] := by
  rw [List.range_succ, List.map_append, List.filter_append]
  congr 1
  rw [List.map_singleton, List.filter_cons, List.filter_nil]
theorem isF_zero {l : List Arc} (hl : ∀ a ∈ l, AOk a) {r : Int} : isF l r 0 = false := by
  cases h : isF l r 0 with
  | false => rfl
  | true =>
    by_cases hr : 1 ≤ r ∧ r ≤ 64
    · rcases (isF_wk hl h).rng hl with e | e <;> omega
    · rw [isF_none hl hr] at h; cases h
theorem rts_zero {l : List Arc} (hl : ∀ a ∈ l, AOk a) {r : Int} : ((List.range (0 + 1)).map fun (i : Nat) => (i : Int)).filter (fun v => decide (v ≠ r) && isF l r v) = [] := by
  simp [isF_zero hl]
/-- The zero value of 65 distances. -/
def chkZ : List Value → Nat → Bool
  | [], k => k == 8450
  | x :: t, k => (match x with | .int .u64 0 => decide (k % 130 < 65) | .bool false => decide (65 ≤ k % 130) | _ => false) && chkZ t (k + 1)
def cellZ (k : Nat) : Value := if k % 130 < 65 then .int .u64 0 else .bool false
theorem chkZ_get : ∀ {l : List Value} {k : Nat}, chkZ l k = true → k + l.length = 8450 ∧ ∀ j, j < l.length → l[j]? = some (cellZ (k + j))
  | [], k, h => by simp [chkZ] at h; exact ⟨by simpa using h, fun j hj => by simp at hj⟩
  | x :: t, k, h => by
    simp only [chkZ, Bool.and_eq_true] at h
    obtain ⟨h1, h2⟩ := chkZ_get h.2
    refine ⟨by simp; omega, fun j hj => ?_⟩
    have hx : x = cellZ k := by
      have h3 := h.1
      unfold cellZ
      split at h3
      · rw [if_pos (by simpa using h3)]
      · rw [if_neg (by simp at h3; omega)]
      · cases h3
    cases j with
    | zero => simp [hx]
    | succ j =>
      have := h2 j (by simpa using hj)
      simp only [List.getElem?_cons_succ]
      rw [this, show k + 1 + j = k + (j + 1) by omega]
theorem distZ_get {j : Nat} (h : j < 130) : (distC ((fun _ => false, fun _ => 0) : DS))[j]? = some (.v (cellZ j)) := by
  unfold distC cellZ
  by_cases hj : j < 65
  · rw [List.getElem?_append_left (by rw [arrF_len one_len]; omega), if_pos (by omega)]
    have := arrF_get (c := fun x => [u64A x]) (n := 65) (m := j) (j := 0) (f := fun _ => (0 : Int)) one_len (by omega) (by omega)
    simpa using this
  · rw [List.getElem?_append_right (by rw [arrF_len one_len]; omega), if_neg (by omega), arrF_len one_len]
    have := arrF_get (c := fun x => [boA x]) (n := 65) (m := j - 65 * 1) (j := 0) (f := fun _ => false) one_len (by omega) (by omega)
    simpa using this
theorem allZ : Try.zeroCells174.toList.map AV.v = arrF 65 distC (fun (_ : Int) => ((fun _ => false, fun _ => 0) : DS)) := by
  have hc : chkZ Try.zeroCells174.toList 0 = true := by kernel_rfl
  obtain ⟨h1, h2⟩ := chkZ_get hc
  have hl : (arrF 65 distC (fun (_ : Int) => ((fun _ => false, fun _ => 0) : DS))).length = 8450 := by rw [arrF_len distC_len]
  apply List.ext_getElem?
  intro j
  by_cases hj : j < 8450
  · rw [List.getElem?_map, h2 j (by omega), Nat.zero_add]
    have := arrF_get (c := distC) (n := 65) (m := j / 130) (j := j % 130) (f := fun (_ : Int) => ((fun _ => false, fun _ => 0) : DS)) distC_len (by omega) (by omega)
    rw [show j / 130 * 130 + j % 130 = j by omega, distZ_get (by omega)] at this
    rw [this]
    unfold cellZ
    rw [show j % 130 % 130 = j % 130 by omega]
    rfl
  · rw [List.getElem?_eq_none (by rw [List.length_map]; omega), List.getElem?_eq_none (by omega)]
theorem upd_all {F : Int → DS} {l m : List Arc} {r : Int} {x : Arc} (h : ∀ a ∈ m, a.f = r → F a.t = bfD l a.t) (hx : x.f = r) : ∀ a ∈ m ++ [x], a.f = r → updF F x.t (bfD l x.t) a.t = bfD l a.t := fun a ha hf => by
  by_cases e : a.t = x.t
  · rw [e, updF_same]
  · rw [updF_ne _ _ e]
    rcases List.mem_append.1 ha with ha | ha
    · exact h a ha hf
    · rw [List.mem_singleton.1 ha] at e; exact absurd rfl e

/- waymarkref25.Routes -/
def ref25_Routes_r8_T : Bool × List (List Nat × List Nat) := (true, [([], []), ([], []), ([0, 1], [0, 1]), ([2], [2]), ([3], [3]), ([], []), ([], []), ([], []), ([6, 7], [6, 7]), ([8], [8]), ([9], [9]), ([5, 10], [5, 10]), ([4, 0, 1, 2, 3, 4, 5, 6, 7, 8, 9, 10, 11], [4]), ([12, 11, 11, 0, 1, 2, 3, 4, 5, 6, 7, 8, 9, 10, 11], [11, 12])])
def ref25_Routes_r8_B : List Nat := [0, 0, 3, 7, 15, 0, 0, 0, 192, 448, 960, 2016, 4095, 8191]
theorem ref25_Routes_r8_t : Go.Proofs.YtmcannmjielalaaW.PrintLast.rtab .any (Go.Proofs.YtmcannmjielalaaW.PrintLast.opsOf Try.f45 8) = ref25_Routes_r8_T := by kernel_rfl
theorem ref25_Routes_r8_b : Go.Proofs.YtmcannmjielalaaW.PrintLast.waitsOk ref25_Routes_r8_T.2 ref25_Routes_r8_B = true := by kernel_rfl
def ref25_Routes_r18_T : Bool × List (List Nat × List Nat) := (true, [([], []), ([], []), ([0, 1], [0, 1]), ([2], [2]), ([3], [3]), ([], []), ([4, 5], [4, 5]), ([6], [6]), ([7], [7]), ([7], [7]), ([9, 8, 7], [7, 8, 9]), ([10, 7], [7, 10]), ([7, 11], [7, 11]), ([12, 7], [12]), ([13], [13]), ([13], [13]), ([14, 15, 13], [13, 14, 15]), ([16, 13], [13, 16]), ([17, 13], [13, 17]), ([18, 13], [13, 18]), ([13], [13]), ([13], [13]), ([21, 20, 13], [13, 20, 21]), ([22, 13], [13, 22]), ([19, 23, 13, 13], [13, 19, 23]), ([13], [13]), ([13], [13]), ([26, 25, 13], [13, 25, 26]), ([27, 13], [13, 27]), ([24, 28, 13], [13, 24, 28]), ([13, 29], [13, 29])])
def ref25_Routes_r18_B : List Nat := [0, 0, 3, 7, 15, 0, 63, 127, 255, 255, 1023, 2047, 4095, 8191, 16383, 16383, 65535, 131071, 262143, 524287, 16383, 16383, 3162111, 7356415, 16777215, 16383, 16383, 100679679, 234897407, 536870911, 1073741823]
theorem ref25_Routes_r18_t : Go.Proofs.YtmcannmjielalaaW.PrintLast.rtab .any (Go.Proofs.YtmcannmjielalaaW.PrintLast.opsOf Try.f45 18) = ref25_Routes_r18_T := by kernel_rfl
theorem ref25_Routes_r18_b : Go.Proofs.YtmcannmjielalaaW.PrintLast.waitsOk ref25_Routes_r18_T.2 ref25_Routes_r18_B = true := by kernel_rfl
set_option maxRecDepth 100000 in
set_option maxHeartbeats 4000000 in
theorem ref25_Routes {l : List Arc} {r : Int} (hll : l.length ≤ 400000 := by omega) (hok : ∀ a ∈ l, AOk a) : Triple Try.prog 45 [.sl 3 (l.map arcC), .int r] [] (Own 49 3 ((routesM l r).map rtC) []) := by
  refine triple_of Try.func45 rfl (by kernel_rfl) rfl (by simp) ?_
  refine aSeq ?_
  refine aReg ?_
  refine sp pMa ?_
  refine oNil ?_
  refine aSeq ?_
  refine aReg ?_
  refine sq ?_
  refine qLit (l := []) rfl rfl (by decide) us_41 ty_49 ze_49 rfl (by decide) (by decide) rfl rfl rfl (fun b13 => ?_)
  refine sp pMa ?_
  refine oNil ?_
  refine aSeq ?_
  refine aReg ?_
  refine sp pM ?_
  refine sp pM ?_
  refine sq ?_
  refine ci rfl rfl rfl (ref25_From (l := l) (r := r) (by omega) hok) ?_
  refine sq ?_
  refine qAlloc rfl rfl (by decide) ze_172 rfl (fun b6 => ?_)
  refine sa ?_
  refine oStW (hn := distC_len _) (h1 := distC_one _) rfl rfl rfl rfl (by repeat constructor) ty_172 ?_
  rw [show avCells (.agg (distC (bfD l r))) = arrF 65 (fun x => [u64A x]) (bfD l r).2 ++ arrF 65 (fun x => [boA x]) (bfD l r).1 from rfl]
  refine oNil ?_
  refine aSeq ?_
  refine aReg ?_
  refine sp (pBuildA0 rfl ua_174 ty_172 ze_174 rfl) ?_
  refine sq ?_
  refine qAlloc rfl rfl (by decide) ze_174 rfl (fun b7 => ?_)
  refine sa ?_
  refine oStW rfl rfl rfl rfl (by repeat constructor) ty_174 ?_
  refine oNil ?_
  refine aSeq ?_
  refine aSeq ?_
  refine aWeak (weak_box (b := b7) (cs' := arrF 65 distC (fun (_ : Int) => ((fun _ => false, fun _ => 0) : DS))) (by repeat constructor) allZ) ?_
  refine aReg ?_
  refine sp pMa ?_
  refine oNil ?_
  refine aBlock ?_
  refine loopF (α := Nat × (Int → DS)) (kept := [(0, _), (1, _), (5, _), (6, _), (7, _)]) (fun (i, F) => i ≤ l.length ∧ ∀ a ∈ l.take i, a.f = r → F a.t = bfD l a.t) (fun (i, F) => [(8, .int i)]) (fun (i, F) => [.box b7 (arrF 65 distC F)]) (fun (i, F) => l.length - i) (0, (fun (_ : Int) => ((fun _ => false, fun _ => 0) : DS))) ?_ ⟨gInt rfl (by first | rfl | omega | simp), rfl, rfl, rfl, rfl, rfl, trivial⟩ (by repeat constructor) ?_
  · skip
    exact ⟨by omega, fun a ha => by simp at ha⟩
  · rintro ⟨i, F⟩ ⟨hi, hF⟩
    refine aSeq ?_
    refine aSeq ?_
    refine aReg ?_
    refine sp pM ?_
    refine sp pM ?_
    refine sp (by first | exact pLm sl_22 | exact pLs sl_22) ?_
    refine sp pB ?_
    refine oNil ?_
    refine aCondDec rfl (fun c21 => ?_) (fun c21 => ?_)
    · skip
      refine aSkip ?_
      refine aSeq ?_
      refine aBlock ?_
      refine aSeq ?_
      obtain ⟨x, hx⟩ : ∃ a, l[i]? = some a := ⟨_, List.getElem?_eq_getElem (by omega)⟩
      have hxk := hok x (List.mem_of_getElem? hx)
      unfold AOk at hxk
      refine aReg ?_
      refine sp pM ?_
      refine sp pM ?_
      first | refine sp (pIx es_22) ?_ | (refine obtSN 24 25 rfl rfl (by omega) (fun x26 hx26 => ?_); refine sp (pIs es_22 hx26) ?_) | (refine obtS 24 25 rfl rfl (by omega) (by omega) (fun x26 hx26 => ?_); refine sp (pIs es_22 hx26) ?_) | refine sp (pIo es_22) ?_
      refine sp (pFs fd_36_0) ?_
      refine sr (rS1 ty_3) ?_
      refine sp pM ?_
      refine sp pB ?_
      refine oNil ?_
      refine aCondEq rfl (fun c30 => ?_) (fun c30 => ?_)
      · skip
        refine aDrawT ref25_Routes_r8_t ref25_Routes_r8_b [13] 14 #[false, false, false, false, false, false, false, false, false, false, false, false, false, false] (by kernel_rfl) rfl rfl (fun HT => ?_)
        refine dp HT 0 rfl pM ?_
        refine dp HT 1 rfl pM ?_
        first | refine dp HT 2 rfl (pIx es_22) ?_ | (refine obtDN 31 32 rfl rfl (by omega) (fun x33 hx33 => ?_); refine dp HT 2 rfl (pIs es_22 hx33) ?_) | (refine obtD 31 32 rfl rfl (by omega) (by omega) (fun x33 hx33 => ?_); refine dp HT 2 rfl (pIs es_22 hx33) ?_) | refine dp HT 2 rfl (pIo es_22) ?_
        refine dp HT 3 rfl (pFs fd_36_1) ?_
        refine dr HT 4 rfl (rS1 ty_3) ?_
        refine dp HT 5 rfl pM ?_
        refine dp HT 6 rfl pM ?_
        refine dp HT 7 rfl pM ?_
        first | refine dp HT 8 rfl (pIx es_22) ?_ | (refine obtDN 37 38 rfl rfl (by omega) (fun x39 hx39 => ?_); refine dp HT 8 rfl (pIs es_22 hx39) ?_) | (refine obtD 37 38 rfl rfl (by omega) (by omega) (fun x39 hx39 => ?_); refine dp HT 8 rfl (pIs es_22 hx39) ?_) | refine dp HT 8 rfl (pIo es_22) ?_
        refine dp HT 9 rfl (pFs fd_36_1) ?_
        refine dr HT 10 rfl (rS1 ty_3) ?_
        refine dGo ?_
        refine e1 HT 11 rfl ?_
        refine ci rfl rfl rfl (ref25_From (l := l) (r := x.t) (by omega) hok) ?_
        refine ep HT 12 rfl (pIa ar_174) ?_
        refine eLast ?_
        refine f1 HT 13 rfl ?_
        refine oArA (c := distC) (v := bfD l x.t) (h1 := distC_one _) rfl rfl rfl (by repeat constructor) ty_172 distC_len ?_
        refine fE HT ?_
        clear HT
        refine aReg ?_
        refine sp pM ?_
        refine sp pAd ?_
        refine sp pMa ?_
        refine oNil ?_
        refine ⟨(i + 1, _), ?_, by (try dsimp only); omega, ⟨gInt rfl (by first | rfl | omega | simp), rfl, rfl, rfl, rfl, rfl, trivial⟩, _, (by repeat constructor)⟩
        dsimp only
        rw [take_step hx]
        first
          | (refine ⟨by omega, upd_all hF ?_⟩; assumption)
          | (refine ⟨by omega, fun a ha hf => ?_⟩
             rcases List.mem_append.1 ha with ha | ha
             · exact hF a ha hf
             · rw [List.mem_singleton.1 ha] at hf; exact absurd hf (by assumption))
      · skip
        refine aSkip ?_
        refine aReg ?_
        refine sp pM ?_
        refine sp pAd ?_
        refine sp pMa ?_
        refine oNil ?_
        refine ⟨(i + 1, _), ?_, by (try dsimp only); omega, ⟨gInt rfl (by first | rfl | omega | simp), rfl, rfl, rfl, rfl, rfl, trivial⟩, _, (by repeat constructor)⟩
        dsimp only
        rw [take_step hx]
        first
          | (refine ⟨by omega, upd_all hF ?_⟩; assumption)
          | (refine ⟨by omega, fun a ha hf => ?_⟩
             rcases List.mem_append.1 ha with ha | ha
             · exact hF a ha hf
             · rw [List.mem_singleton.1 ha] at hf; exact absurd hf (by assumption))
    · skip
      refine aExit rfl ?_
      refine aSeq ?_
      refine aSeq ?_
      rw [take_all (by omega)] at hF
      refine aReg ?_
      refine sp pMa ?_
      refine oNil ?_
      refine aBlock ?_
      refine loopF (α := Nat × List Rt × Option Nat × Nat) (kept := [(0, _), (1, _), (6, _), (7, _)]) (fun (n, out, g, c) => n ≤ 64 ∧ out = (((List.range (n + 1)).map fun (i : Nat) => (i : Int)).filter (fun v => decide (v ≠ r) && isF l r v)).map fun v => ⟨v, viaM l r v, dF l r v⟩) (fun (n, out, g, c) => [(9, .int ((n + 1 : Nat) : Int)), (5, .v (slV g out.length c))]) (fun (n, out, g, c) => [.sl g c 49 3 (out.map rtC)]) (fun (n, out, g, c) => 64 - n) (0, [], _, _) ?_ ⟨gInt rfl (by first | rfl | omega | simp), gLen rfl (by first | rfl | simp | (simp; omega)), rfl, rfl, rfl, rfl, trivial⟩ (by repeat constructor) ?_
      · skip
        exact ⟨by omega, by rw [rts_zero hok]; rfl⟩
      · rintro ⟨n, out, g, c⟩ ⟨hn, ho⟩
        refine aSeq ?_
        refine aSeq ?_
        refine aReg ?_
        refine sp pM ?_
        refine sp pB ?_
        refine oNil ?_
        refine aCondDec rfl (fun c45 => ?_) (fun c45 => ?_)
        · skip
          refine aSkip ?_
          refine aSeq ?_
          refine aBlock ?_
          refine aSeq ?_
          refine aSeq ?_
          refine aReg ?_
          refine sp pM ?_
          refine sp pM ?_
          refine sp pB ?_
          refine sp pM ?_
          refine oSplitEq 51 rfl (fun c51 => ?_) (fun c51 => ?_)
          · skip
            refine gf ?_
            refine gf ?_
            refine gf ?_
            refine gf ?_
            refine gf ?_
            refine sp pK ?_
            refine oNil ?_
            refine aCondT rfl ?_
            refine aExit rfl ?_
            refine aReg ?_
            refine sp pM ?_
            refine sp pAd ?_
            refine sp pMa ?_
            refine oNil ?_
            refine ⟨(n + 1, _, _, _), ?_, by (try dsimp only); omega, ⟨gInt rfl (by first | rfl | omega | simp), gLen rfl (by first | rfl | simp | (simp; omega)), rfl, rfl, rfl, rfl, trivial⟩, _, (by repeat constructor)⟩
            refine ⟨by omega, ?_⟩
            rw [rts_step, List.map_append, ← ho]
            first
              | (rw [if_neg (by simp_all [isF])]; simp; done)
              | (obtain rfl : j = 0 := by omega
                 rw [List.drop_zero] at hv
                 rw [if_pos (by simp_all [isF])]
                 rw [hv]
                 rfl)
          · skip
            refine gp pM ?_
            refine gp (pFb fd_172_1) ?_
            refine gp (pIa ar_170) ?_
            refine gr (by first | exact rAr ty_4 | exact rArL ty_4 | exact rArR2 ty_4 | exact rB1 ty_4) ?_
            refine gp pNo ?_
            refine sp pK ?_
            refine oNil ?_
            refine aCondNot rfl (fun c57 => ?_) (fun c57 => ?_)
            · skip
              refine aExit rfl ?_
              refine aReg ?_
              refine sp pM ?_
              refine sp pAd ?_
              refine sp pMa ?_
              refine oNil ?_
              refine ⟨(n + 1, _, _, _), ?_, by (try dsimp only); omega, ⟨gInt rfl (by first | rfl | omega | simp), gLen rfl (by first | rfl | simp | (simp; omega)), rfl, rfl, rfl, rfl, trivial⟩, _, (by repeat constructor)⟩
              refine ⟨by omega, ?_⟩
              rw [rts_step, List.map_append, ← ho]
              first
                | (rw [if_neg (by simp_all [isF])]; simp; done)
                | (obtain rfl : j = 0 := by omega
                   rw [List.drop_zero] at hv
                   rw [if_pos (by simp_all [isF])]
                   rw [hv]
                   rfl)
            · skip
              refine aSkip ?_
              refine aSeq ?_
              refine aReg ?_
              refine sp pMa ?_
              refine oNil ?_
              refine aSeq ?_
              refine aSeq ?_
              refine aReg ?_
              refine sp pM ?_
              refine sp (by first | exact pLm sl_22 | exact pLs sl_22) ?_
              refine sp pSu ?_
              refine sp pMa ?_
              refine oNil ?_
              refine aBlock ?_
              refine loopF (α := Nat × Int) (kept := [(0, _), (1, _), (5, _), (6, _), (7, _), (9, _)]) (fun (j, v) => j ≤ l.length ∧ v = (((l.drop j).find? (viaP l r ((n + 1 : Nat) : Int))).map (·.t)).getD 0) (fun (j, v) => [(11, .int ((j : Int) - 1)), (10, .int v)]) (fun (j, v) => []) (fun (j, v) => j) (l.length, 0) ?_ ⟨gInt rfl (by first | rfl | omega | simp), gInt rfl (by first | rfl | omega | simp), rfl, rfl, rfl, rfl, rfl, rfl, trivial⟩ (by repeat constructor) ?_
              · skip
                exact ⟨by omega, by simp⟩
              · rintro ⟨j, v⟩ ⟨hj, hv⟩
                refine aSeq ?_
                refine aSeq ?_
                refine aReg ?_
                refine sp pM ?_
                refine sp pB ?_
                refine oNil ?_
                refine aCondDec rfl (fun c62 => ?_) (fun c62 => ?_)
                · skip
                  refine aSkip ?_
                  refine aSeq ?_
                  refine aBlock ?_
                  refine aSeq ?_
                  obtain ⟨y, hy⟩ : ∃ y, l[j - 1]? = some y := ⟨_, List.getElem?_eq_getElem (by omega)⟩
                  have hy2 : l[((j : Int) - 1).toNat]? = some y := by rw [show ((j : Int) - 1).toNat = j - 1 by omega]; exact hy
                  have hyk := hok y (List.mem_of_getElem? hy)
                  unfold AOk at hyk
                  have hFy := hF y (List.mem_of_getElem? hy)
                  have hr1 : 0 ≤ (bfD l y.t).2 ((n + 1 : Nat) : Int) ∧ (bfD l y.t).2 ((n + 1 : Nat) : Int) ≤ 69793218560000000 := dF_range hok (by omega) y.t ((n + 1 : Nat) : Int)
                  have hvd := viaDrop (r := r) (v := ((n + 1 : Nat) : Int)) hy
                  refine aReg ?_
                  refine sp pM ?_
                  refine sp pM ?_
                  first | refine sp (pIx es_22) ?_ | (refine obtSN 65 66 rfl rfl (by omega) (fun x67 hx67 => ?_); refine sp (pIs es_22 hx67) ?_) | (refine obtS 65 66 rfl rfl (by omega) (by omega) (fun x67 hx67 => ?_); refine sp (pIs es_22 hx67) ?_) | refine sp (pIo es_22) ?_
                  refine sp (pFs fd_36_1) ?_
                  refine sr (rS1 ty_3) ?_
                  refine sp (pIa ar_174) ?_
                  refine sr (rArA ty_172 distC_len) ?_
                  refine sq ?_
                  refine qAlloc rfl rfl (by decide) ze_172 rfl (fun b12 => ?_)
                  refine sa ?_
                  refine oStW (hn := distC_len _) (h1 := distC_one _) rfl rfl rfl rfl (by repeat constructor) ty_172 ?_
                  rw [show avCells (.agg (distC (F y.t))) = arrF 65 (fun x => [u64A x]) (F y.t).2 ++ arrF 65 (fun x => [boA x]) (F y.t).1 from rfl]
                  refine oNil ?_
                  refine aSeq ?_
                  refine aDrawT ref25_Routes_r18_t ref25_Routes_r18_b [] 31 #[false, false, false, false, false, false, false, false, false, false, false, false, false, false, false, false, false, false, false, false, false, false, false, false, false, false, false, false, false, false, false] (by kernel_rfl) rfl rfl (fun HT => ?_)
                  refine dp HT 0 rfl pM ?_
                  refine dp HT 1 rfl pM ?_
                  first | refine dp HT 2 rfl (pIx es_22) ?_ | (refine obtDN 72 73 rfl rfl (by omega) (fun x74 hx74 => ?_); refine dp HT 2 rfl (pIs es_22 hx74) ?_) | (refine obtD 72 73 rfl rfl (by omega) (by omega) (fun x74 hx74 => ?_); refine dp HT 2 rfl (pIs es_22 hx74) ?_) | refine dp HT 2 rfl (pIo es_22) ?_
                  refine dp HT 3 rfl (pFs fd_36_0) ?_
                  refine dr HT 4 rfl (rS1 ty_3) ?_
                  refine dp HT 5 rfl pM ?_
                  refine dp HT 6 rfl pB ?_
                  refine dp HT 7 rfl pM ?_
                  refine dSplitEq 79 rfl (fun c79 => ?_) (fun c79 => ?_)
                  · skip
                    rw [hFy (by assumption)]
                    refine dpG HT 8 rfl pM ?_
                    refine dpG HT 9 rfl (pFb fd_172_1) ?_
                    refine dpG HT 10 rfl (pIa ar_170) ?_
                    refine drG HT 11 rfl (by first | exact rAr ty_4 | exact rArL ty_4 | exact rArR2 ty_4 | exact rB1 ty_4) ?_
                    refine dp HT 12 rfl pK ?_
                    refine dp HT 13 rfl pM ?_
                    refine dSplit 85 rfl (fun c85 => ?_) (fun c85 => ?_)
                    · skip
                      refine dpG HT 14 rfl pM ?_
                      refine dpG HT 15 rfl pM ?_
                      first | refine dpG HT 16 rfl (pIx es_22) ?_ | (refine obtDN 86 87 rfl rfl (by omega) (fun x88 hx88 => ?_); refine dpG HT 16 rfl (pIs es_22 hx88) ?_) | (refine obtD 86 87 rfl rfl (by omega) (by omega) (fun x88 hx88 => ?_); refine dpG HT 16 rfl (pIs es_22 hx88) ?_) | refine dpG HT 16 rfl (pIo es_22) ?_
                      refine dpG HT 17 rfl (pFs fd_36_2) ?_
                      refine drG HT 18 rfl (rS1 ty_3) ?_
                      refine dpG HT 19 rfl (by first | exact pCvK ik_3 ik_37 | exact pConv rfl rfl ik_3 ik_37 rfl) ?_
                      refine dpG HT 20 rfl pM ?_
                      refine dpG HT 21 rfl (pFb fd_172_0) ?_
                      refine dpG HT 22 rfl (pIa ar_169) ?_
                      refine drG HT 23 rfl (by first | exact rAr ty_37 | exact rArL ty_37 | exact rArR2 ty_37 | exact rB1 ty_37) ?_
                      refine dpG HT 25 rfl pM ?_
                      refine dpG HT 26 rfl (pFb fd_172_0) ?_
                      refine dpG HT 27 rfl (pIa ar_169) ?_
                      refine drG HT 28 rfl (by first | exact rAr ty_37 | exact rArL ty_37 | exact rArR2 ty_37 | exact rB1 ty_37) ?_
                      refine dGo ?_
                      refine e1G HT 24 rfl ?_
                      refine cv rfl rfl rfl (lents_refl _) (ref22_Add (by omega) (by omega) (by omega) (by omega)) ?_
                      rw [add_far (by omega)]
                      refine efG HT 29 rfl pB ?_
                      refine ef HT 30 rfl pK ?_
                      refine eE HT ?_
                      clear HT
                      refine aCondEq rfl (fun c102 => ?_) (fun c102 => ?_)
                      · skip
                        refine aReg ?_
                        refine sp pM ?_
                        refine sp pM ?_
                        first | refine sp (pIx es_22) ?_ | (refine obtSN 103 104 rfl rfl (by omega) (fun x105 hx105 => ?_); refine sp (pIs es_22 hx105) ?_) | (refine obtS 103 104 rfl rfl (by omega) (by omega) (fun x105 hx105 => ?_); refine sp (pIs es_22 hx105) ?_) | refine sp (pIo es_22) ?_
                        refine sp (pFs fd_36_1) ?_
                        refine sr (rS1 ty_3) ?_
                        refine sp pMa ?_
                        refine oNil ?_
                        refine aReg ?_
                        refine sp pM ?_
                        refine sp pSu ?_
                        refine sp pMa ?_
                        refine oNil ?_
                        refine ⟨(j - 1, _), ?_, by (try dsimp only); omega, ⟨gInt rfl (by first | rfl | omega | simp), gInt rfl (by first | rfl | omega | simp), rfl, rfl, rfl, rfl, rfl, rfl, trivial⟩, _, (by repeat constructor)⟩
                        rw [show j - 1 + 1 = j by omega] at hvd
                        refine ⟨by omega, ?_⟩
                        rw [hvd, ← hv]
                        first
                          | (rw [if_neg (by simp_all [viaP, isF, dF]; done)]; done)
                          | (rw [if_neg (by simp_all [viaP, isF, dF]; omega)]; done)
                          | (rw [if_pos (by simp_all [viaP, isF, dF]; done)]; done)
                          | (rw [if_pos (by simp_all [viaP, isF, dF]; omega)]; done)
                      · skip
                        refine aSkip ?_
                        refine aReg ?_
                        refine sp pM ?_
                        refine sp pSu ?_
                        refine sp pMa ?_
                        refine oNil ?_
                        refine ⟨(j - 1, _), ?_, by (try dsimp only); omega, ⟨gInt rfl (by first | rfl | omega | simp), gInt rfl (by first | rfl | omega | simp), rfl, rfl, rfl, rfl, rfl, rfl, trivial⟩, _, (by repeat constructor)⟩
                        rw [show j - 1 + 1 = j by omega] at hvd
                        refine ⟨by omega, ?_⟩
                        rw [hvd, ← hv]
                        first
                          | (rw [if_neg (by simp_all [viaP, isF, dF]; done)]; done)
                          | (rw [if_neg (by simp_all [viaP, isF, dF]; omega)]; done)
                          | (rw [if_pos (by simp_all [viaP, isF, dF]; done)]; done)
                          | (rw [if_pos (by simp_all [viaP, isF, dF]; omega)]; done)
                    · skip
                      refine dS HT 14 rfl ?_
                      refine dS HT 15 rfl ?_
                      refine dS HT 16 rfl ?_
                      refine dS HT 17 rfl ?_
                      refine dS HT 18 rfl ?_
                      refine dS HT 19 rfl ?_
                      refine dS HT 20 rfl ?_
                      refine dS HT 21 rfl ?_
                      refine dS HT 22 rfl ?_
                      refine dS HT 23 rfl ?_
                      refine dS HT 24 rfl ?_
                      refine dS HT 25 rfl ?_
                      refine dS HT 26 rfl ?_
                      refine dS HT 27 rfl ?_
                      refine dS HT 28 rfl ?_
                      refine dS HT 29 rfl ?_
                      refine dp HT 30 rfl pK ?_
                      refine dE HT ?_
                      clear HT
                      refine aCondF rfl ?_
                      refine aSkip ?_
                      refine aReg ?_
                      refine sp pM ?_
                      refine sp pSu ?_
                      refine sp pMa ?_
                      refine oNil ?_
                      refine ⟨(j - 1, _), ?_, by (try dsimp only); omega, ⟨gInt rfl (by first | rfl | omega | simp), gInt rfl (by first | rfl | omega | simp), rfl, rfl, rfl, rfl, rfl, rfl, trivial⟩, _, (by repeat constructor)⟩
                      rw [show j - 1 + 1 = j by omega] at hvd
                      refine ⟨by omega, ?_⟩
                      rw [hvd, ← hv]
                      first
                        | (rw [if_neg (by simp_all [viaP, isF, dF]; done)]; done)
                        | (rw [if_neg (by simp_all [viaP, isF, dF]; omega)]; done)
                        | (rw [if_pos (by simp_all [viaP, isF, dF]; done)]; done)
                        | (rw [if_pos (by simp_all [viaP, isF, dF]; omega)]; done)
                  · skip
                    refine dS HT 8 rfl ?_
                    refine dS HT 9 rfl ?_
                    refine dS HT 10 rfl ?_
                    refine dS HT 11 rfl ?_
                    refine dp HT 12 rfl pK ?_
                    refine dp HT 13 rfl pM ?_
                    refine dS HT 14 rfl ?_
                    refine dS HT 15 rfl ?_
                    refine dS HT 16 rfl ?_
                    refine dS HT 17 rfl ?_
                    refine dS HT 18 rfl ?_
                    refine dS HT 19 rfl ?_
                    refine dS HT 20 rfl ?_
                    refine dS HT 21 rfl ?_
                    refine dS HT 22 rfl ?_
                    refine dS HT 23 rfl ?_
                    refine dS HT 24 rfl ?_
                    refine dS HT 25 rfl ?_
                    refine dS HT 26 rfl ?_
                    refine dS HT 27 rfl ?_
                    refine dS HT 28 rfl ?_
                    refine dS HT 29 rfl ?_
                    refine dp HT 30 rfl pK ?_
                    refine dE HT ?_
                    clear HT
                    refine aCondF rfl ?_
                    refine aSkip ?_
                    refine aReg ?_
                    refine sp pM ?_
                    refine sp pSu ?_
                    refine sp pMa ?_
                    refine oNil ?_
                    refine ⟨(j - 1, _), ?_, by (try dsimp only); omega, ⟨gInt rfl (by first | rfl | omega | simp), gInt rfl (by first | rfl | omega | simp), rfl, rfl, rfl, rfl, rfl, rfl, trivial⟩, _, (by repeat constructor)⟩
                    rw [show j - 1 + 1 = j by omega] at hvd
                    refine ⟨by omega, ?_⟩
                    rw [hvd, ← hv]
                    first
                      | (rw [if_neg (by simp_all [viaP, isF, dF]; done)]; done)
                      | (rw [if_neg (by simp_all [viaP, isF, dF]; omega)]; done)
                      | (rw [if_pos (by simp_all [viaP, isF, dF]; done)]; done)
                      | (rw [if_pos (by simp_all [viaP, isF, dF]; omega)]; done)
                · skip
                  refine aExit rfl ?_
                  refine aReg ?_
                  refine sp pM ?_
                  refine sp pM ?_
                  refine sp pM ?_
                  refine sp pM ?_
                  refine sp (pFb fd_172_0) ?_
                  refine sp (pIa ar_169) ?_
                  refine sr (by first | exact rAr ty_37 | exact rArL ty_37 | exact rArR2 ty_37 | exact rB1 ty_37) ?_
                  refine sp (pBuild rfl st_49 ze_49 rfl rfl rfl rfl) ?_
                  refine sq ?_
                  refine qLit (l := [_]) rfl rfl (by decide) us_41 ty_49 ze_49 rfl (by decide) (by decide) rfl rfl rfl (fun b116 => ?_)
                  have hol : out.length ≤ 1000 := by
                    rw [ho, List.length_map]
                    refine Nat.le_trans (List.length_filter_le _ _) ?_
                    simp
                    omega
                  refine sa ?_
                  refine oAppT ([⟨((n + 1 : Nat) : Int), v, (bfD l r).2 ((n + 1 : Nat) : Int)⟩] : List Rt) rfl rfl (by repeat constructor) (srcOwn rfl (by repeat constructor) rfl) el_41 sl_41 (fun g117 k117 => ?_)
                  refine sp pMa ?_
                  refine oNil ?_
                  refine aReg ?_
                  refine sp pM ?_
                  refine sp pAd ?_
                  refine sp pMa ?_
                  refine oNil ?_
                  refine ⟨(n + 1, _, _, _), ?_, by (try dsimp only); omega, ⟨gInt rfl (by first | rfl | omega | simp), gLen rfl (by first | rfl | simp | (simp; omega)), rfl, rfl, rfl, rfl, trivial⟩, _, (by repeat constructor)⟩
                  refine ⟨by omega, ?_⟩
                  rw [rts_step, List.map_append, ← ho]
                  first
                    | (rw [if_neg (by simp_all [isF])]; simp; done)
                    | (obtain rfl : j = 0 := by omega
                       rw [List.drop_zero] at hv
                       rw [if_pos (by simp_all [isF])]
                       rw [hv]
                       rfl)
        · skip
          refine aExit rfl ?_
          refine aSeq ?_
          refine aReg ?_
          refine sp pM ?_
          refine sp pMa ?_
          refine oNil ?_
          refine aRet ?_
          refine finOwn rfl ?_
          obtain rfl : n = 64 := by omega
          rw [ho]
          rfl

end A
end Go.Proofs.Ytmcannmjielalaa
