/- Whatever the input, waymarklaw49.FlowCuts returns true, and each argument reads as it did. -/
import Derived.KernelRfl
import Derived.Test.YtmcannmjielalaaProg
import Derived.Test.YtmcannmjielalaaS10FlowCuts
set_option linter.unusedVariables false
set_option linter.unusedSimpArgs false
namespace Go.Proofs.Ytmcannmjielalaa
namespace A
theorem es_22 : elemSize Try.prog 22 = some 3 := by kernel_rfl
theorem es_25 : elemSize Try.prog 25 = some 1 := by kernel_rfl
theorem fd_36_0 : fieldOf Try.prog 36 0 = some (0, 1, false) := by kernel_rfl
theorem fd_36_1 : fieldOf Try.prog 36 1 = some (1, 1, false) := by kernel_rfl
theorem fd_36_2 : fieldOf Try.prog 36 2 = some (2, 1, false) := by kernel_rfl
theorem sl_22 : isSl Try.prog 22 = true := by kernel_rfl
theorem sl_25 : isSl Try.prog 25 = true := by kernel_rfl
theorem ty_3 : tyOf Try.prog 3 = some (1, false) := by kernel_rfl
theorem ty_36 : tyOf Try.prog 36 = some (3, true) := by kernel_rfl
theorem us_25 : Try.prog.underlying 25 = some (.slice 3) := by kernel_rfl
theorem ze_3 : zeroOf Try.prog 3 = some (.int .i64 0) := by kernel_rfl
theorem ze_36 : zeroOf Try.prog 36 = some (.agg #[.int .i64 0, .int .i64 0, .int .i64 0]) := by kernel_rfl
def cmpI (a b : Int) : Int := if a < b then -1 else if b < a then 1 else 0
def orI : List Int → Int
  | [] => 0
  | a :: l => if a ≠ 0 then a else orI l
theorem orI_drop {xs : List Int} {i : Nat} {a : Int} (h : xs[i]? = some a) : orI (xs.drop i) = if a ≠ 0 then a else orI (xs.drop (i + 1)) := by
  rw [drop_step h]
  rfl
/- cmp.isNaN[int] -/
set_option maxRecDepth 100000 in
set_option maxHeartbeats 400000 in
theorem cmp_isNaN {n : Int} : Triple Try.prog 246 [.int n] [] (Is (.v (.bool false)) []) := by
  refine triple_of Try.func246 rfl (by kernel_rfl) rfl (by simp) ?_
  refine aSeq ?_
  refine aReg ?_
  refine sp pMa ?_
  refine oNil ?_
  refine aSeq ?_
  refine aReg ?_
  refine sp pM ?_
  refine sp pM ?_
  refine sp pB ?_
  refine sp pMa ?_
  refine oNil ?_
  refine aRet ?_
  refine finIs rfl ?_
  simp [retOf]
/- cmp.Compare[int] -/
set_option maxRecDepth 100000 in
set_option maxHeartbeats 400000 in
theorem cmp_Compare {a b : Int} : Triple Try.prog 174 [.int a, .int b] [] (Is (.v (.int .i64 (cmpI a b))) []) := by
  refine triple_of Try.func174 rfl (by kernel_rfl) rfl (by simp) ?_
  refine aSeq ?_
  refine aReg ?_
  refine sp pMa ?_
  refine oNil ?_
  refine aSeq ?_
  refine aReg ?_
  refine sp pM ?_
  refine sq ?_
  refine cv rfl rfl rfl (lents_refl _) cmp_isNaN ?_
  refine sp pMa ?_
  refine oNil ?_
  refine aSeq ?_
  refine aReg ?_
  refine sp pM ?_
  refine sq ?_
  refine cv rfl rfl rfl (lents_refl _) cmp_isNaN ?_
  refine sp pMa ?_
  refine oNil ?_
  refine aSeq ?_
  refine aSeq ?_
  refine aReg ?_
  refine sp pM ?_
  refine oNil ?_
  refine aCond rfl (fun c11 => ?_) (fun c11 => ?_)
  · skip
    refine aSeq ?_
    refine aSeq ?_
    refine aReg ?_
    refine sp pM ?_
    refine oNil ?_
    refine aCond rfl (fun c12 => ?_) (fun c12 => ?_)
    · skip
      refine aSeq ?_
      refine aReg ?_
      refine sp pMa ?_
      refine oNil ?_
      refine aRet ?_
      refine finIs rfl ?_
      simp_all [retOf, cmpI] <;> omega
    · skip
      refine aSkip ?_
      refine aSeq ?_
      refine aReg ?_
      refine sp pMa ?_
      refine oNil ?_
      refine aRet ?_
      refine finIs rfl ?_
      simp_all [retOf, cmpI] <;> omega
  · skip
    refine aSkip ?_
    refine aSeq ?_
    refine aSeq ?_
    refine aReg ?_
    refine sp pM ?_
    refine oNil ?_
    refine aCond rfl (fun c13 => ?_) (fun c13 => ?_)
    · skip
      refine aSeq ?_
      refine aReg ?_
      refine sp pMa ?_
      refine oNil ?_
      refine aRet ?_
      refine finIs rfl ?_
      simp_all [retOf, cmpI] <;> omega
    · skip
      refine aSkip ?_
      refine aSeq ?_
      refine aSeq ?_
      refine aReg ?_
      refine sp pM ?_
      refine sp pM ?_
      refine sp pB ?_
      refine oNil ?_
      refine aCondDec rfl (fun c16 => ?_) (fun c16 => ?_)
      · skip
        refine aSeq ?_
        refine aReg ?_
        refine sp pMa ?_
        refine oNil ?_
        refine aRet ?_
        refine finIs rfl ?_
        simp_all [retOf, cmpI] <;> omega
      · skip
        refine aSkip ?_
        refine aSeq ?_
        refine aSeq ?_
        refine aReg ?_
        refine sp pM ?_
        refine sp pM ?_
        refine sp pB ?_
        refine oNil ?_
        refine aCondDec rfl (fun c19 => ?_) (fun c19 => ?_)
        · skip
          refine aSeq ?_
          refine aReg ?_
          refine sp pMa ?_
          refine oNil ?_
          refine aRet ?_
          refine finIs rfl ?_
          simp_all [retOf, cmpI] <;> omega
        · skip
          refine aSkip ?_
          refine aSeq ?_
          refine aReg ?_
          refine sp pMa ?_
          refine oNil ?_
          refine aRet ?_
          refine finIs rfl ?_
          simp_all [retOf, cmpI] <;> omega
/- cmp.Or[int] -/
set_option maxRecDepth 100000 in
set_option maxHeartbeats 400000 in
theorem cmp_Or (xs : List Int) (hx : xs.length ≤ 1000 := by simp) : Triple Try.prog 173 [.sl 1 (xs.map intA)] [] (Is (.v (.int .i64 (orI xs))) []) := by
  refine triple_of Try.func173 rfl (by kernel_rfl) rfl (by simp) ?_
  refine aSeq ?_
  refine aReg ?_
  refine sp pMa ?_
  refine oNil ?_
  refine aSeq ?_
  refine aReg ?_
  refine sp pMa ?_
  refine oNil ?_
  refine aSeq ?_
  refine aSeq ?_
  refine aReg ?_
  refine sp pM ?_
  refine sp (by first | exact pLm sl_25 | exact pLs sl_25) ?_
  refine sp pM ?_
  refine oNil ?_
  refine aBlock ?_
  refine loopF (α := Nat) (kept := [(3, _), (6, _), (7, _)]) (fun i => i ≤ xs.length ∧ orI (xs.drop i) = orI xs) (fun i => [(8, .int i)]) (fun i => []) (fun i => xs.length - i) 0 ?_ ⟨gInt rfl (by first | rfl | omega | simp), rfl, rfl, rfl, trivial⟩ (by repeat constructor) ?_
  · skip
    exact ⟨by omega, rfl⟩
  · rintro i ⟨hi, ho⟩
    refine aSeq ?_
    refine aReg ?_
    refine sp pB ?_
    refine oNil ?_
    refine aSeq ?_
    refine aCondDec rfl (fun c9 => ?_) (fun c9 => ?_)
    · skip
      refine aSkip ?_
      refine aSeq ?_
      refine aBlock ?_
      refine aSeq ?_
      refine aReg ?_
      first | refine sp (pIx es_25) ?_ | (refine obtSN 6 8 rfl rfl (by omega) (fun x10 hx10 => ?_); refine sp (pIs es_25 hx10) ?_) | (refine obtS 6 8 rfl rfl (by omega) (by omega) (fun x10 hx10 => ?_); refine sp (pIs es_25 hx10) ?_) | refine sp (pIo es_25) ?_
      refine sr (rS1 ty_3) ?_
      refine sp pMa ?_
      refine oNil ?_
      refine aSeq ?_
      refine aReg ?_
      refine sp pM ?_
      refine sp pM ?_
      refine sp pB ?_
      refine oNil ?_
      refine aCondNe rfl (fun c14 => ?_) (fun c14 => ?_)
      · skip
        refine aSeq ?_
        refine aReg ?_
        refine sp pM ?_
        refine sp pMa ?_
        refine oNil ?_
        refine aRet ?_
        refine finIs rfl ?_
        show AV.int _ = AV.int _
        congr 2
        first | (rw [← ho, orI_drop hx10, if_pos (by assumption)]; done) | (rw [← ho, List.drop_of_length_le (by omega)]; rfl)
      · skip
        refine aSkip ?_
        refine aReg ?_
        refine sp pAd ?_
        refine sp pM ?_
        refine oNil ?_
        refine ⟨i + 1, ?_, by (try dsimp only); omega, ⟨gInt rfl (by first | rfl | omega | simp), rfl, rfl, rfl, trivial⟩, _, (by repeat constructor)⟩
        exact ⟨by omega, by rw [← ho, orI_drop hx10]; simp_all⟩
    · skip
      refine aExit rfl ?_
      refine aSeq ?_
      refine aReg ?_
      refine sp pM ?_
      refine sp pMa ?_
      refine oNil ?_
      refine aRet ?_
      refine finIs rfl ?_
      show AV.int _ = AV.int _
      congr 2
      first | (rw [← ho, orI_drop hx10, if_pos (by assumption)]; done) | (rw [← ho, List.drop_of_length_le (by omega)]; rfl)
structure Arc where
  f : Int
  t : Int
  c : Int
  deriving DecidableEq, Inhabited
def arcC (a : Arc) : List AV := [.int a.f, .int a.t, .int a.c]
def nodeB (n : Int) : Bool := decide (1 ≤ n) && decide (n ≤ 64)
def arcB (a : Arc) : Bool := nodeB a.f && nodeB a.t && !(a.f == a.t) && decide (1 ≤ a.c) && decide (a.c ≤ 1073741824)
def ltA (x y : Arc) : Prop := x.f < y.f ∨ x.f = y.f ∧ x.t < y.t
instance (x y : Arc) : Decidable (ltA x y) := by unfold ltA; infer_instance
/-- Arcs from a place on, behind the one ahead of it. -/
def arcsB : Option Arc → List Arc → Bool
  | _, [] => true
  | p, a :: l => arcB a && (match p with | none => true | some q => decide (ltA q a)) && arcsB (some a) l
def orderA (a b : Arc) : Int := orI [cmpI a.f b.f, cmpI a.t b.t]
theorem cmpI_ne {a b : Int} : cmpI a b ≠ 0 ↔ a ≠ b := by unfold cmpI; split <;> (try split) <;> omega
theorem cmpI_lt {a b : Int} : cmpI a b < 0 ↔ a < b := by unfold cmpI; split <;> (try split) <;> omega
theorem orderA_lt {a b : Arc} : orderA a b < 0 ↔ ltA a b := by
  simp only [orderA, orI, ltA]
  have h1 := cmpI_ne (a := a.f) (b := b.f)
  have h2 := cmpI_lt (a := a.f) (b := b.f)
  have h3 := cmpI_ne (a := a.t) (b := b.t)
  have h4 := cmpI_lt (a := a.t) (b := b.t)
  split
  · omega
  · split <;> omega
def ordA (p : Option Arc) (e : Arc) : Bool := match p with | none => true | some q => decide (orderA q e < 0)
theorem arcs_step {l : List Arc} {i : Nat} {e : Arc} {p : Option Arc} (h : l[i]? = some e) : arcsB p (l.drop i) = (arcB e && ordA p e && arcsB (some e) (l.drop (i + 1))) := by
  rw [drop_step h]
  cases p with
  | none => rfl
  | some q => simp only [arcsB, ordA, orderA_lt]
theorem arcsB_all : ∀ {l : List Arc} {p : Option Arc}, arcsB p l = true → ∀ e ∈ l, arcB e = true
  | [], _, _, e, he => by simp at he
  | x :: l, p, h, e, he => by
    simp only [arcsB, Bool.and_eq_true] at h
    rcases List.mem_cons.1 he with rfl | he
    · exact h.1.1
    · exact arcsB_all h.2 e he
def AOk (a : Arc) : Prop := 1 ≤ a.f ∧ a.f ≤ 64 ∧ 1 ≤ a.t ∧ a.t ≤ 64 ∧ a.f ≠ a.t ∧ 1 ≤ a.c ∧ a.c ≤ 1073741824
theorem AOk.of {a : Arc} (h : arcB a = true) : AOk a := by
  simp only [arcB, nodeB, Bool.and_eq_true, decide_eq_true_eq, Bool.not_eq_true', beq_eq_false_iff_ne] at h
  unfold AOk
  omega
theorem arcs_ok {l : List Arc} (h : arcsB none l = true) : ∀ a ∈ l, AOk a := fun a ha => AOk.of (arcsB_all h a ha)
/- graph.node -/
set_option maxRecDepth 100000 in
set_option maxHeartbeats 400000 in
theorem graph_node {n : Int} : Triple Try.prog 120 [.int n] [] (Is (.v (.bool (nodeB n))) []) := by
  refine triple_of Try.func120 rfl (by kernel_rfl) rfl (by simp) ?_
  refine aSeq ?_
  refine aReg ?_
  refine sp pMa ?_
  refine oNil ?_
  refine aSeq ?_
  refine aReg ?_
  refine sp pM ?_
  refine sp pB ?_
  refine sp pM ?_
  refine oSplitDec 5 rfl (fun c5 => ?_) (fun c5 => ?_)
  · skip
    refine gp pM ?_
    refine gp pB ?_
    refine sp pK ?_
    refine sp pMa ?_
    refine oNil ?_
    refine aRet ?_
    refine finIs rfl ?_
    simp [retOf, nodeB]
    omega
  · skip
    refine gf ?_
    refine gf ?_
    refine sp pK ?_
    refine sp pMa ?_
    refine oNil ?_
    refine aRet ?_
    refine finIs rfl ?_
    simp [retOf, nodeB]
    omega
/- graph.order -/
def graph_order_r1_T : Bool × List (List Nat × List Nat) := (true, [([], []), ([0], [0]), ([], []), ([2], [2]), ([1, 3], [1, 3]), ([], []), ([5], [5]), ([], []), ([7], [7]), ([6, 8, 4], [6, 8]), ([4, 9], [4, 9]), ([10, 9], [10]), ([11, 11, 0, 1, 2, 3, 4, 5, 6, 7, 8, 9, 10, 11], [11])])
def graph_order_r1_B : List Nat := [0, 1, 0, 4, 15, 0, 32, 0, 128, 511, 1023, 2047, 4095]
theorem graph_order_r1_t : Go.Proofs.YtmcannmjielalaaW.PrintLast.rtab .any (Go.Proofs.YtmcannmjielalaaW.PrintLast.opsOf Try.f121 1) = graph_order_r1_T := by kernel_rfl
theorem graph_order_r1_b : Go.Proofs.YtmcannmjielalaaW.PrintLast.waitsOk graph_order_r1_T.2 graph_order_r1_B = true := by kernel_rfl
set_option maxRecDepth 100000 in
set_option maxHeartbeats 400000 in
theorem graph_order {a b : Arc} : Triple Try.prog 121 [.agg (arcC a), .agg (arcC b)] [] (Is (.v (.int .i64 (orderA a b))) []) := by
  refine triple_of Try.func121 rfl (by kernel_rfl) rfl (by simp) ?_
  refine aSeq ?_
  refine aReg ?_
  refine sq ?_
  refine qBox rfl rfl (by decide) rfl rfl (fun b2 => ?_)
  refine sq ?_
  refine qBox rfl rfl (by decide) rfl rfl (fun b3 => ?_)
  refine sp pMa ?_
  refine oNil ?_
  refine aSeq ?_
  refine aDrawT graph_order_r1_t graph_order_r1_b [] 13 #[false, false, false, false, false, false, false, false, false, false, false, false, false] (by kernel_rfl) rfl rfl (fun HT => ?_)
  refine dp HT 0 rfl (pFb fd_36_0) ?_
  refine dr HT 1 rfl (rB1 ty_3) ?_
  refine dp HT 2 rfl (pFb fd_36_0) ?_
  refine dr HT 3 rfl (rB1 ty_3) ?_
  refine dp HT 5 rfl (pFb fd_36_1) ?_
  refine dr HT 6 rfl (rB1 ty_3) ?_
  refine dp HT 7 rfl (pFb fd_36_1) ?_
  refine dr HT 8 rfl (rB1 ty_3) ?_
  refine dGo ?_
  refine e1 HT 4 rfl ?_
  refine cv rfl rfl rfl (lents_refl _) cmp_Compare ?_
  refine e1 HT 9 rfl ?_
  refine cv rfl rfl rfl (lents_refl _) cmp_Compare ?_
  refine e1 HT 10 rfl ?_
  refine qLit (l := [_, _]) rfl rfl (by decide) us_25 ty_3 ze_3 rfl (by decide) (by decide) rfl rfl rfl (fun b15 => ?_)
  refine e1 HT 11 rfl ?_
  refine cv rfl rfl rfl (by repeat (first | exact .nil | refine .cons (.sl (by repeat (first | exact List.mem_cons_self | apply List.mem_cons_of_mem)) (by first | rfl | simp)) ?_ | refine .cons (.same _) ?_)) (cmp_Or [cmpI a.f b.f, cmpI a.t b.t]) ?_
  refine ePure (i := 12) #[true, true, true, true, true, true, true, true, true, true, true, true, true] rfl rfl rfl (HT.any (by kernel_rfl)) (by exact pMa) (by decide) ?_
  refine eE HT ?_
  clear HT
  refine aRet ?_
  refine finIs rfl ?_
  rfl
/- graph.Check -/
def graph_Check_r4_T : Bool × List (List Nat × List Nat) := (true, [([], []), ([0], [0]), ([1], [1]), ([2], [2]), ([3, 2], [3]), ([4], [4]), ([5, 4], [4, 5]), ([6, 4, 4], [4, 6]), ([7, 4], [4, 7]), ([4, 8], [4, 8]), ([9, 7], [9]), ([10], [10]), ([11, 10], [10, 11]), ([10], [10]), ([13, 10], [10, 13]), ([12, 14, 10], [10, 12, 14]), ([10, 15], [10, 15]), ([16, 10], [16]), ([17], [17]), ([18, 17], [17, 18]), ([19, 17], [17, 19]), ([17, 20], [17, 20]), ([21, 17], [21]), ([22], [22]), ([23, 22], [22, 23]), ([24, 22], [22, 24]), ([22, 25], [22, 25]), ([26, 22], [26]), ([27], [27]), ([28, 27], [27, 28]), ([29, 27, 27], [27, 29]), ([30], [30]), ([30], [30]), ([32, 30], [30, 32]), ([31, 33, 30], [30, 31, 33]), ([34, 30], [30, 34]), ([30], [30]), ([35, 36, 30, 30], [30, 35, 36]), ([37, 30], [30, 37]), ([30, 38, 27], [27, 30, 38]), ([27, 39], [27, 39])])
def graph_Check_r4_B : List Nat := [0, 1, 3, 7, 15, 31, 63, 127, 255, 511, 1023, 2047, 4095, 2047, 10239, 32767, 65535, 131071, 262143, 524287, 1048575, 2097151, 4194303, 8388607, 16777215, 33554431, 67108863, 134217727, 268435455, 536870911, 1073741823, 2147483647, 2147483647, 6442450943, 17179869183, 34359738367, 2147483647, 137438953471, 274877906943, 549755813887, 1099511627775]
theorem graph_Check_r4_t : Go.Proofs.YtmcannmjielalaaW.PrintLast.rtab .any (Go.Proofs.YtmcannmjielalaaW.PrintLast.opsOf Try.f30 4) = graph_Check_r4_T := by kernel_rfl
theorem graph_Check_r4_b : Go.Proofs.YtmcannmjielalaaW.PrintLast.waitsOk graph_Check_r4_T.2 graph_Check_r4_B = true := by kernel_rfl
set_option maxRecDepth 100000 in
set_option maxHeartbeats 2000000 in
theorem graph_Check {l : List Arc} (hl : l.length ≤ 1000000 := by omega) : Triple Try.prog 30 [.sl 3 (l.map arcC)] [] (Is (.v (.int .i64 (if arcsB none l then 0 else 1))) []) := by
  refine triple_of Try.func30 rfl (by kernel_rfl) rfl (by simp) ?_
  refine aSeq ?_
  refine aReg ?_
  refine sp pMa ?_
  refine oNil ?_
  refine aSeq ?_
  refine aSeq ?_
  refine aReg ?_
  refine sp pM ?_
  refine sp (by first | exact pLm sl_22 | exact pLs sl_22) ?_
  refine sp pM ?_
  refine oNil ?_
  refine aBlock ?_
  refine loopF (α := Nat) (kept := [(0, _), (5, _), (6, _)]) (fun i => i ≤ l.length ∧ arcsB none l = arcsB (prevA l i) (l.drop i)) (fun i => [(7, .int i)]) (fun i => []) (fun i => l.length - i) 0 ?_ ⟨gInt rfl (by first | rfl | omega | simp), rfl, rfl, rfl, trivial⟩ (by repeat constructor) ?_
  · skip
    exact ⟨by omega, rfl⟩
  · rintro i ⟨hi, hv⟩
    refine aSeq ?_
    refine aReg ?_
    refine sp pB ?_
    refine oNil ?_
    refine aSeq ?_
    refine aCondDec rfl (fun c8 => ?_) (fun c8 => ?_)
    · skip
      refine aSkip ?_
      refine aSeq ?_
      refine aBlock ?_
      refine aSeq ?_
      refine aReg ?_
      refine sp pM ?_
      first | refine sp (pIx es_22) ?_ | (refine obtSN 5 7 rfl rfl (by omega) (fun x10 hx10 => ?_); refine sp (pIs es_22 hx10) ?_) | (refine obtS 5 7 rfl rfl (by omega) (by omega) (fun x10 hx10 => ?_); refine sp (pIs es_22 hx10) ?_) | refine sp (pIo es_22) ?_
      refine sr (by first | exact rSW ty_36 rfl | exact rSA ty_36) ?_
      refine sq ?_
      refine qAlloc rfl rfl (by decide) ze_36 rfl (fun b4 => ?_)
      refine sp pMa ?_
      refine sa ?_
      refine oStW rfl rfl rfl rfl (by repeat constructor) ty_36 ?_
      refine oNil ?_
      refine aSeq ?_
      have hprev : 0 < i → ∃ b, l[((i : Int) - 1).toNat]? = some b := fun h => ⟨_, List.getElem?_eq_getElem (by omega)⟩
      refine aDrawT graph_Check_r4_t graph_Check_r4_b [] 41 #[false, false, false, false, false, false, false, false, false, false, false, false, false, false, false, false, false, false, false, false, false, false, false, false, false, false, false, false, false, false, false, false, false, false, false, false, false, false, false, false, false] (by kernel_rfl) rfl rfl (fun HT => ?_)
      refine dp HT 0 rfl (pFb fd_36_0) ?_
      refine dr HT 1 rfl (rB1 ty_3) ?_
      refine dGo ?_
      refine e1 HT 2 rfl ?_
      refine cv rfl rfl rfl (lents_refl _) graph_node ?_
      refine ef HT 3 rfl pNo ?_
      refine ef HT 4 rfl pM ?_
      refine eSplitNot 16 rfl (fun c16 => ?_) (fun c16 => ?_)
      · skip
        refine eS HT 5 rfl ?_
        refine eS HT 6 rfl ?_
        refine eS HT 7 rfl ?_
        refine eS HT 8 rfl ?_
        refine ef HT 9 rfl pK ?_
        refine ef HT 10 rfl pM ?_
        refine eS HT 11 rfl ?_
        refine eS HT 12 rfl ?_
        refine eS HT 13 rfl ?_
        refine eS HT 14 rfl ?_
        refine eS HT 15 rfl ?_
        refine ef HT 16 rfl pK ?_
        refine ef HT 17 rfl pM ?_
        refine eS HT 18 rfl ?_
        refine eS HT 19 rfl ?_
        refine eS HT 20 rfl ?_
        refine ef HT 21 rfl pK ?_
        refine ef HT 22 rfl pM ?_
        refine eS HT 23 rfl ?_
        refine eS HT 24 rfl ?_
        refine eS HT 25 rfl ?_
        refine ef HT 26 rfl pK ?_
        refine ef HT 27 rfl pM ?_
        refine eS HT 28 rfl ?_
        refine eS HT 29 rfl ?_
        refine eS HT 30 rfl ?_
        refine eS HT 31 rfl ?_
        refine eS HT 32 rfl ?_
        refine eS HT 33 rfl ?_
        refine eS HT 34 rfl ?_
        refine eS HT 35 rfl ?_
        refine eS HT 36 rfl ?_
        refine eS HT 37 rfl ?_
        refine eS HT 38 rfl ?_
        refine eS HT 39 rfl ?_
        refine ef HT 40 rfl pK ?_
        refine eE HT ?_
        clear HT
        refine aCondT rfl ?_
        refine aSeq ?_
        refine aReg ?_
        refine sp pMa ?_
        refine oNil ?_
        refine aRet ?_
        refine finIs rfl ?_
        have hs := arcs_step (p := prevA l i) hx10
        show AV.int 1 = AV.int _
        rw [hv, hs]
        by_cases h0 : i = 0 <;> simp_all [arcB, ordA, prevA]
        all_goals (intros; omega)
      · skip
        refine epG HT 5 rfl (pFb fd_36_1) ?_
        refine erG HT 6 rfl (rB1 ty_3) ?_
        refine e1G HT 7 rfl ?_
        refine cv rfl rfl rfl (lents_refl _) graph_node ?_
        refine efG HT 8 rfl pNo ?_
        refine ef HT 9 rfl pK ?_
        refine ef HT 10 rfl pM ?_
        refine eSplitNot 22 rfl (fun c22 => ?_) (fun c22 => ?_)
        · skip
          refine eS HT 11 rfl ?_
          refine eS HT 12 rfl ?_
          refine eS HT 13 rfl ?_
          refine eS HT 14 rfl ?_
          refine eS HT 15 rfl ?_
          refine ef HT 16 rfl pK ?_
          refine ef HT 17 rfl pM ?_
          refine eS HT 18 rfl ?_
          refine eS HT 19 rfl ?_
          refine eS HT 20 rfl ?_
          refine ef HT 21 rfl pK ?_
          refine ef HT 22 rfl pM ?_
          refine eS HT 23 rfl ?_
          refine eS HT 24 rfl ?_
          refine eS HT 25 rfl ?_
          refine ef HT 26 rfl pK ?_
          refine ef HT 27 rfl pM ?_
          refine eS HT 28 rfl ?_
          refine eS HT 29 rfl ?_
          refine eS HT 30 rfl ?_
          refine eS HT 31 rfl ?_
          refine eS HT 32 rfl ?_
          refine eS HT 33 rfl ?_
          refine eS HT 34 rfl ?_
          refine eS HT 35 rfl ?_
          refine eS HT 36 rfl ?_
          refine eS HT 37 rfl ?_
          refine eS HT 38 rfl ?_
          refine eS HT 39 rfl ?_
          refine ef HT 40 rfl pK ?_
          refine eE HT ?_
          clear HT
          refine aCondT rfl ?_
          refine aSeq ?_
          refine aReg ?_
          refine sp pMa ?_
          refine oNil ?_
          refine aRet ?_
          refine finIs rfl ?_
          have hs := arcs_step (p := prevA l i) hx10
          show AV.int 1 = AV.int _
          rw [hv, hs]
          by_cases h0 : i = 0 <;> simp_all [arcB, ordA, prevA]
          all_goals (intros; omega)
        · skip
          refine epG HT 11 rfl (pFb fd_36_0) ?_
          refine erG HT 12 rfl (rB1 ty_3) ?_
          refine epG HT 13 rfl (pFb fd_36_1) ?_
          refine erG HT 14 rfl (rB1 ty_3) ?_
          refine epG HT 15 rfl pB ?_
          refine ef HT 16 rfl pK ?_
          refine ef HT 17 rfl pM ?_
          refine eSplitEq 29 rfl (fun c29 => ?_) (fun c29 => ?_)
          · skip
            refine eS HT 18 rfl ?_
            refine eS HT 19 rfl ?_
            refine eS HT 20 rfl ?_
            refine ef HT 21 rfl pK ?_
            refine ef HT 22 rfl pM ?_
            refine eS HT 23 rfl ?_
            refine eS HT 24 rfl ?_
            refine eS HT 25 rfl ?_
            refine ef HT 26 rfl pK ?_
            refine ef HT 27 rfl pM ?_
            refine eS HT 28 rfl ?_
            refine eS HT 29 rfl ?_
            refine eS HT 30 rfl ?_
            refine eS HT 31 rfl ?_
            refine eS HT 32 rfl ?_
            refine eS HT 33 rfl ?_
            refine eS HT 34 rfl ?_
            refine eS HT 35 rfl ?_
            refine eS HT 36 rfl ?_
            refine eS HT 37 rfl ?_
            refine eS HT 38 rfl ?_
            refine eS HT 39 rfl ?_
            refine ef HT 40 rfl pK ?_
            refine eE HT ?_
            clear HT
            refine aCondT rfl ?_
            refine aSeq ?_
            refine aReg ?_
            refine sp pMa ?_
            refine oNil ?_
            refine aRet ?_
            refine finIs rfl ?_
            have hs := arcs_step (p := prevA l i) hx10
            show AV.int 1 = AV.int _
            rw [hv, hs]
            by_cases h0 : i = 0 <;> simp_all [arcB, ordA, prevA]
            all_goals (intros; omega)
          · skip
            refine epG HT 18 rfl (pFb fd_36_2) ?_
            refine erG HT 19 rfl (rB1 ty_3) ?_
            refine epG HT 20 rfl pB ?_
            refine ef HT 21 rfl pK ?_
            refine ef HT 22 rfl pM ?_
            refine eSplitDec 34 rfl (fun c34 => ?_) (fun c34 => ?_)
            · skip
              refine eS HT 23 rfl ?_
              refine eS HT 24 rfl ?_
              refine eS HT 25 rfl ?_
              refine ef HT 26 rfl pK ?_
              refine ef HT 27 rfl pM ?_
              refine eS HT 28 rfl ?_
              refine eS HT 29 rfl ?_
              refine eS HT 30 rfl ?_
              refine eS HT 31 rfl ?_
              refine eS HT 32 rfl ?_
              refine eS HT 33 rfl ?_
              refine eS HT 34 rfl ?_
              refine eS HT 35 rfl ?_
              refine eS HT 36 rfl ?_
              refine eS HT 37 rfl ?_
              refine eS HT 38 rfl ?_
              refine eS HT 39 rfl ?_
              refine ef HT 40 rfl pK ?_
              refine eE HT ?_
              clear HT
              refine aCondT rfl ?_
              refine aSeq ?_
              refine aReg ?_
              refine sp pMa ?_
              refine oNil ?_
              refine aRet ?_
              refine finIs rfl ?_
              have hs := arcs_step (p := prevA l i) hx10
              show AV.int 1 = AV.int _
              rw [hv, hs]
              by_cases h0 : i = 0 <;> simp_all [arcB, ordA, prevA]
              all_goals (intros; omega)
            · skip
              refine epG HT 23 rfl (pFb fd_36_2) ?_
              refine erG HT 24 rfl (rB1 ty_3) ?_
              refine epG HT 25 rfl pB ?_
              refine ef HT 26 rfl pK ?_
              refine ef HT 27 rfl pM ?_
              refine eSplitDec 39 rfl (fun c39 => ?_) (fun c39 => ?_)
              · skip
                refine eS HT 28 rfl ?_
                refine eS HT 29 rfl ?_
                refine eS HT 30 rfl ?_
                refine eS HT 31 rfl ?_
                refine eS HT 32 rfl ?_
                refine eS HT 33 rfl ?_
                refine eS HT 34 rfl ?_
                refine eS HT 35 rfl ?_
                refine eS HT 36 rfl ?_
                refine eS HT 37 rfl ?_
                refine eS HT 38 rfl ?_
                refine eS HT 39 rfl ?_
                refine ef HT 40 rfl pK ?_
                refine eE HT ?_
                clear HT
                refine aCondT rfl ?_
                refine aSeq ?_
                refine aReg ?_
                refine sp pMa ?_
                refine oNil ?_
                refine aRet ?_
                refine finIs rfl ?_
                have hs := arcs_step (p := prevA l i) hx10
                show AV.int 1 = AV.int _
                rw [hv, hs]
                by_cases h0 : i = 0 <;> simp_all [arcB, ordA, prevA]
                all_goals (intros; omega)
              · skip
                refine epG HT 28 rfl pM ?_
                refine epG HT 29 rfl pB ?_
                refine epG HT 30 rfl pM ?_
                refine eSplitDec 42 rfl (fun c42 => ?_) (fun c42 => ?_)
                · skip
                  refine epG HT 31 rfl pM ?_
                  refine epG HT 32 rfl pM ?_
                  refine epG HT 33 rfl pSu ?_
                  obtain ⟨b, hb⟩ := hprev (by omega)
                  have hb' : l[i - 1]? = some b := by rw [← hb]; congr 1; omega
                  first | refine epG HT 34 rfl (pIx es_22) ?_ | (refine obtEN 43 45 rfl rfl (by omega) (fun x46 hx46 => ?_); refine epG HT 34 rfl (pIs es_22 hx46) ?_) | (refine obtE 43 45 rfl rfl (by omega) (by omega) (fun x46 hx46 => ?_); refine epG HT 34 rfl (pIs es_22 hx46) ?_) | refine epG HT 34 rfl (pIo es_22) ?_
                  refine erG HT 35 rfl (by first | exact rSW ty_36 rfl | exact rSA ty_36) ?_
                  refine erG HT 36 rfl (by first | exact rBWa ty_36 | exact rBW ty_36 | exact rBA ty_36) ?_
                  refine e1G HT 37 rfl ?_
                  refine cv rfl rfl rfl (lents_refl _) graph_order ?_
                  refine efG HT 38 rfl pB ?_
                  refine efG HT 39 rfl pK ?_
                  refine ef HT 40 rfl pK ?_
                  refine eE HT ?_
                  clear HT
                  refine aCondDec rfl (fun c52 => ?_) (fun c52 => ?_)
                  · skip
                    refine aSeq ?_
                    refine aReg ?_
                    refine sp pMa ?_
                    refine oNil ?_
                    refine aRet ?_
                    refine finIs rfl ?_
                    have hs := arcs_step (p := prevA l i) hx10
                    show AV.int 1 = AV.int _
                    rw [hv, hs]
                    by_cases h0 : i = 0 <;> simp_all [arcB, ordA, prevA]
                    all_goals (intros; omega)
                  · skip
                    refine aSkip ?_
                    refine aReg ?_
                    refine sp pAd ?_
                    refine sp pM ?_
                    refine oNil ?_
                    refine ⟨i + 1, ?_, by (try dsimp only); omega, ⟨gInt rfl (by first | rfl | omega | simp), rfl, rfl, rfl, trivial⟩, _, (by repeat constructor)⟩
                    have hs := arcs_step (p := prevA l i) hx10
                    refine ⟨by omega, ?_⟩
                    rw [hv, hs, prevA_succ hx10]
                    by_cases h0 : i = 0 <;> simp_all [arcB, ordA, prevA]
                    all_goals (intros; omega)
                · skip
                  refine eS HT 31 rfl ?_
                  refine eS HT 32 rfl ?_
                  refine eS HT 33 rfl ?_
                  refine eS HT 34 rfl ?_
                  refine eS HT 35 rfl ?_
                  refine eS HT 36 rfl ?_
                  refine eS HT 37 rfl ?_
                  refine eS HT 38 rfl ?_
                  refine efG HT 39 rfl pK ?_
                  refine ef HT 40 rfl pK ?_
                  refine eE HT ?_
                  clear HT
                  refine aCondF rfl ?_
                  refine aSkip ?_
                  refine aReg ?_
                  refine sp pAd ?_
                  refine sp pM ?_
                  refine oNil ?_
                  refine ⟨i + 1, ?_, by (try dsimp only); omega, ⟨gInt rfl (by first | rfl | omega | simp), rfl, rfl, rfl, trivial⟩, _, (by repeat constructor)⟩
                  have hs := arcs_step (p := prevA l i) hx10
                  refine ⟨by omega, ?_⟩
                  rw [hv, hs, prevA_succ hx10]
                  by_cases h0 : i = 0 <;> simp_all [arcB, ordA, prevA]
                  all_goals (intros; omega)
    · skip
      refine aExit rfl ?_
      refine aSeq ?_
      refine aReg ?_
      refine sp pMa ?_
      refine oNil ?_
      refine aRet ?_
      refine finIs rfl ?_
      show AV.int 0 = AV.int _
      rw [hv, List.drop_of_length_le (by omega)]
      rfl
/- waymarkref24.May -/
def ref24_May_r7_T : Bool × List (List Nat × List Nat) := (true, [([], []), ([0], [0]), ([1], [1]), ([2], [2]), ([2], [2]), ([4, 2], [2, 4]), ([3, 5, 2], [2, 3, 5]), ([6, 2], [2, 6]), ([7, 2], [2, 7]), ([2], [2]), ([9, 2], [2, 9]), ([8, 10, 2], [2, 8, 10]), ([11, 2, 2], [2, 11]), ([12], [12]), ([12], [12]), ([14, 12], [12, 14]), ([13, 15, 12], [12, 13, 15]), ([16, 12], [12, 16]), ([17, 12], [12, 17]), ([12], [12]), ([19, 12], [12, 19]), ([18, 20, 12], [12, 18, 20]), ([21, 12, 12], [12, 21]), ([22], [22]), ([22], [22]), ([24, 22], [22, 24]), ([23, 25, 22], [22, 23, 25]), ([26, 22], [22, 26]), ([27, 22], [22, 27]), ([22], [22]), ([29, 22], [22, 29]), ([28, 30, 22], [22, 28, 30]), ([22, 31, 12], [12, 22, 31]), ([12, 32, 2], [2, 12, 32]), ([2, 33], [2, 33])])
def ref24_May_r7_B : List Nat := [0, 1, 3, 7, 7, 23, 63, 127, 255, 7, 519, 2047, 4095, 8191, 8191, 24575, 65535, 131071, 262143, 8191, 532479, 2097151, 4194303, 8388607, 8388607, 25165823, 67108863, 134217727, 268435455, 8388607, 545259519, 2147483647, 4294967295, 8589934591, 17179869183]
theorem ref24_May_r7_t : Go.Proofs.YtmcannmjielalaaW.PrintLast.rtab .any (Go.Proofs.YtmcannmjielalaaW.PrintLast.opsOf Try.f31 7) = ref24_May_r7_T := by kernel_rfl
theorem ref24_May_r7_b : Go.Proofs.YtmcannmjielalaaW.PrintLast.waitsOk ref24_May_r7_T.2 ref24_May_r7_B = true := by kernel_rfl
set_option maxRecDepth 100000 in
set_option maxHeartbeats 2000000 in
theorem ref24_May {l : List Arc} (hl : l.length ≤ 1000000 := by omega) : Triple Try.prog 31 [.sl 3 (l.map arcC)] [] (Is (.v (.bool (arcsB none l))) []) := by
  refine triple_of Try.func31 rfl (by kernel_rfl) rfl (by simp) ?_
  refine aSeq ?_
  refine aReg ?_
  refine sp pMa ?_
  refine oNil ?_
  refine aSeq ?_
  refine aSeq ?_
  refine aReg ?_
  refine sp pMa ?_
  refine oNil ?_
  refine aBlock ?_
  refine loopF (α := Nat) (kept := [(0, _)]) (fun i => i ≤ l.length ∧ arcsB none l = arcsB (prevA l i) (l.drop i)) (fun i => [(3, .int i)]) (fun i => []) (fun i => l.length - i) 0 ?_ ⟨gInt rfl (by first | rfl | omega | simp), rfl, trivial⟩ (by repeat constructor) ?_
  · skip
    exact ⟨by omega, rfl⟩
  · rintro i ⟨hi, hv⟩
    refine aSeq ?_
    refine aSeq ?_
    refine aReg ?_
    refine sp pM ?_
    refine sp pM ?_
    refine sp (by first | exact pLm sl_22 | exact pLs sl_22) ?_
    refine sp pB ?_
    refine oNil ?_
    refine aCondDec rfl (fun c8 => ?_) (fun c8 => ?_)
    · skip
      refine aSkip ?_
      refine aSeq ?_
      refine aBlock ?_
      refine aSeq ?_
      refine aReg ?_
      refine sp pM ?_
      refine sp pM ?_
      first | refine sp (pIx es_22) ?_ | (refine obtSN 11 12 rfl rfl (by omega) (fun x13 hx13 => ?_); refine sp (pIs es_22 hx13) ?_) | (refine obtS 11 12 rfl rfl (by omega) (by omega) (fun x13 hx13 => ?_); refine sp (pIs es_22 hx13) ?_) | refine sp (pIo es_22) ?_
      refine sr (by first | exact rSW ty_36 rfl | exact rSA ty_36) ?_
      refine sq ?_
      refine qAlloc rfl rfl (by decide) ze_36 rfl (fun b4 => ?_)
      refine sa ?_
      refine oStW rfl rfl rfl rfl (by repeat constructor) ty_36 ?_
      refine oNil ?_
      refine aSeq ?_
      refine aSeq ?_
      refine aReg ?_
      refine sp (pFb fd_36_0) ?_
      refine sr (rB1 ty_3) ?_
      refine sp pB ?_
      refine sp pM ?_
      refine oSplitDec 18 rfl (fun c18 => ?_) (fun c18 => ?_)
      · skip
        refine gf ?_
        refine gf ?_
        refine gf ?_
        refine sp pK ?_
        refine sp pM ?_
        refine gf ?_
        refine gf ?_
        refine gf ?_
        refine sp pK ?_
        refine sp pM ?_
        refine gf ?_
        refine gf ?_
        refine gf ?_
        refine sp pK ?_
        refine sp pM ?_
        refine gf ?_
        refine gf ?_
        refine gf ?_
        refine gf ?_
        refine gf ?_
        refine sp pK ?_
        refine sp pM ?_
        refine gf ?_
        refine gf ?_
        refine gf ?_
        refine sp pK ?_
        refine sp pM ?_
        refine gf ?_
        refine gf ?_
        refine gf ?_
        refine sp pK ?_
        refine oNil ?_
        refine aCondT rfl ?_
        refine aSeq ?_
        refine aReg ?_
        refine sp pMa ?_
        refine oNil ?_
        refine aRet ?_
        refine finIs rfl ?_
        have hs := arcs_step (p := prevA l i) hx13
        show AV.v (.bool false) = AV.v (.bool (arcsB none l))
        rw [hv, hs]
        by_cases h0 : i = 0 <;> simp_all [arcB, nodeB, ordA, prevA, orderA_lt, ltA]
        all_goals (intros; omega)
      · skip
        refine gp (pFb fd_36_0) ?_
        refine gr (rB1 ty_3) ?_
        refine gp pB ?_
        refine sp pK ?_
        refine sp pM ?_
        refine oSplitDec 23 rfl (fun c23 => ?_) (fun c23 => ?_)
        · skip
          refine gf ?_
          refine gf ?_
          refine gf ?_
          refine sp pK ?_
          refine sp pM ?_
          refine gf ?_
          refine gf ?_
          refine gf ?_
          refine sp pK ?_
          refine sp pM ?_
          refine gf ?_
          refine gf ?_
          refine gf ?_
          refine gf ?_
          refine gf ?_
          refine sp pK ?_
          refine sp pM ?_
          refine gf ?_
          refine gf ?_
          refine gf ?_
          refine sp pK ?_
          refine sp pM ?_
          refine gf ?_
          refine gf ?_
          refine gf ?_
          refine sp pK ?_
          refine oNil ?_
          refine aCondT rfl ?_
          refine aSeq ?_
          refine aReg ?_
          refine sp pMa ?_
          refine oNil ?_
          refine aRet ?_
          refine finIs rfl ?_
          have hs := arcs_step (p := prevA l i) hx13
          show AV.v (.bool false) = AV.v (.bool (arcsB none l))
          rw [hv, hs]
          by_cases h0 : i = 0 <;> simp_all [arcB, nodeB, ordA, prevA, orderA_lt, ltA]
          all_goals (intros; omega)
        · skip
          refine gp (pFb fd_36_1) ?_
          refine gr (rB1 ty_3) ?_
          refine gp pB ?_
          refine sp pK ?_
          refine sp pM ?_
          refine oSplitDec 28 rfl (fun c28 => ?_) (fun c28 => ?_)
          · skip
            refine gf ?_
            refine gf ?_
            refine gf ?_
            refine sp pK ?_
            refine sp pM ?_
            refine gf ?_
            refine gf ?_
            refine gf ?_
            refine gf ?_
            refine gf ?_
            refine sp pK ?_
            refine sp pM ?_
            refine gf ?_
            refine gf ?_
            refine gf ?_
            refine sp pK ?_
            refine sp pM ?_
            refine gf ?_
            refine gf ?_
            refine gf ?_
            refine sp pK ?_
            refine oNil ?_
            refine aCondT rfl ?_
            refine aSeq ?_
            refine aReg ?_
            refine sp pMa ?_
            refine oNil ?_
            refine aRet ?_
            refine finIs rfl ?_
            have hs := arcs_step (p := prevA l i) hx13
            show AV.v (.bool false) = AV.v (.bool (arcsB none l))
            rw [hv, hs]
            by_cases h0 : i = 0 <;> simp_all [arcB, nodeB, ordA, prevA, orderA_lt, ltA]
            all_goals (intros; omega)
          · skip
            refine gp (pFb fd_36_1) ?_
            refine gr (rB1 ty_3) ?_
            refine gp pB ?_
            refine sp pK ?_
            refine sp pM ?_
            refine oSplitDec 33 rfl (fun c33 => ?_) (fun c33 => ?_)
            · skip
              refine gf ?_
              refine gf ?_
              refine gf ?_
              refine gf ?_
              refine gf ?_
              refine sp pK ?_
              refine sp pM ?_
              refine gf ?_
              refine gf ?_
              refine gf ?_
              refine sp pK ?_
              refine sp pM ?_
              refine gf ?_
              refine gf ?_
              refine gf ?_
              refine sp pK ?_
              refine oNil ?_
              refine aCondT rfl ?_
              refine aSeq ?_
              refine aReg ?_
              refine sp pMa ?_
              refine oNil ?_
              refine aRet ?_
              refine finIs rfl ?_
              have hs := arcs_step (p := prevA l i) hx13
              show AV.v (.bool false) = AV.v (.bool (arcsB none l))
              rw [hv, hs]
              by_cases h0 : i = 0 <;> simp_all [arcB, nodeB, ordA, prevA, orderA_lt, ltA]
              all_goals (intros; omega)
            · skip
              refine gp (pFb fd_36_0) ?_
              refine gr (rB1 ty_3) ?_
              refine gp (pFb fd_36_1) ?_
              refine gr (rB1 ty_3) ?_
              refine gp pB ?_
              refine sp pK ?_
              refine sp pM ?_
              refine oSplitEq 40 rfl (fun c40 => ?_) (fun c40 => ?_)
              · skip
                refine gf ?_
                refine gf ?_
                refine gf ?_
                refine sp pK ?_
                refine sp pM ?_
                refine gf ?_
                refine gf ?_
                refine gf ?_
                refine sp pK ?_
                refine oNil ?_
                refine aCondT rfl ?_
                refine aSeq ?_
                refine aReg ?_
                refine sp pMa ?_
                refine oNil ?_
                refine aRet ?_
                refine finIs rfl ?_
                have hs := arcs_step (p := prevA l i) hx13
                show AV.v (.bool false) = AV.v (.bool (arcsB none l))
                rw [hv, hs]
                by_cases h0 : i = 0 <;> simp_all [arcB, nodeB, ordA, prevA, orderA_lt, ltA]
                all_goals (intros; omega)
              · skip
                refine gp (pFb fd_36_2) ?_
                refine gr (rB1 ty_3) ?_
                refine gp pB ?_
                refine sp pK ?_
                refine sp pM ?_
                refine oSplitDec 45 rfl (fun c45 => ?_) (fun c45 => ?_)
                · skip
                  refine gf ?_
                  refine gf ?_
                  refine gf ?_
                  refine sp pK ?_
                  refine oNil ?_
                  refine aCondT rfl ?_
                  refine aSeq ?_
                  refine aReg ?_
                  refine sp pMa ?_
                  refine oNil ?_
                  refine aRet ?_
                  refine finIs rfl ?_
                  have hs := arcs_step (p := prevA l i) hx13
                  show AV.v (.bool false) = AV.v (.bool (arcsB none l))
                  rw [hv, hs]
                  by_cases h0 : i = 0 <;> simp_all [arcB, nodeB, ordA, prevA, orderA_lt, ltA]
                  all_goals (intros; omega)
                · skip
                  refine gp (pFb fd_36_2) ?_
                  refine gr (rB1 ty_3) ?_
                  refine gp pB ?_
                  refine sp pK ?_
                  refine oNil ?_
                  refine aCondDec rfl (fun c49 => ?_) (fun c49 => ?_)
                  · skip
                    refine aSeq ?_
                    refine aReg ?_
                    refine sp pMa ?_
                    refine oNil ?_
                    refine aRet ?_
                    refine finIs rfl ?_
                    have hs := arcs_step (p := prevA l i) hx13
                    show AV.v (.bool false) = AV.v (.bool (arcsB none l))
                    rw [hv, hs]
                    by_cases h0 : i = 0 <;> simp_all [arcB, nodeB, ordA, prevA, orderA_lt, ltA]
                    all_goals (intros; omega)
                  · skip
                    refine aSkip ?_
                    refine aSeq ?_
                    have hprev : 0 < i → ∃ b, l[((i : Int) - 1).toNat]? = some b := fun h => ⟨_, List.getElem?_eq_getElem (by omega)⟩
                    refine aDrawT ref24_May_r7_t ref24_May_r7_b [] 35 #[false, false, false, false, false, false, false, false, false, false, false, false, false, false, false, false, false, false, false, false, false, false, false, false, false, false, false, false, false, false, false, false, false, false, false] (by kernel_rfl) rfl rfl (fun HT => ?_)
                    refine dp HT 0 rfl pM ?_
                    refine dp HT 1 rfl pB ?_
                    refine dp HT 2 rfl pM ?_
                    refine dSplitDec 52 rfl (fun c52 => ?_) (fun c52 => ?_)
                    · skip
                      refine dpG HT 3 rfl pM ?_
                      refine dpG HT 4 rfl pM ?_
                      refine dpG HT 5 rfl pSu ?_
                      obtain ⟨b, hb⟩ := hprev (by omega)
                      have hb' : l[i - 1]? = some b := by rw [← hb]; congr 1; omega
                      first | refine dpG HT 6 rfl (pIx es_22) ?_ | (refine obtDN 53 55 rfl rfl (by omega) (fun x56 hx56 => ?_); refine dpG HT 6 rfl (pIs es_22 hx56) ?_) | (refine obtD 53 55 rfl rfl (by omega) (by omega) (fun x56 hx56 => ?_); refine dpG HT 6 rfl (pIs es_22 hx56) ?_) | refine dpG HT 6 rfl (pIo es_22) ?_
                      refine dpG HT 7 rfl (pFs fd_36_0) ?_
                      refine drG HT 8 rfl (rS1 ty_3) ?_
                      refine dpG HT 9 rfl (pFb fd_36_0) ?_
                      refine drG HT 10 rfl (rB1 ty_3) ?_
                      refine dpG HT 11 rfl pB ?_
                      refine dpG HT 12 rfl pM ?_
                      refine dSplitDec 62 rfl (fun c62 => ?_) (fun c62 => ?_)
                      · skip
                        refine dS HT 13 rfl ?_
                        refine dS HT 14 rfl ?_
                        refine dS HT 15 rfl ?_
                        refine dS HT 16 rfl ?_
                        refine dS HT 17 rfl ?_
                        refine dS HT 18 rfl ?_
                        refine dS HT 19 rfl ?_
                        refine dS HT 20 rfl ?_
                        refine dS HT 21 rfl ?_
                        refine dS HT 22 rfl ?_
                        refine dS HT 23 rfl ?_
                        refine dS HT 24 rfl ?_
                        refine dS HT 25 rfl ?_
                        refine dS HT 26 rfl ?_
                        refine dS HT 27 rfl ?_
                        refine dS HT 28 rfl ?_
                        refine dS HT 29 rfl ?_
                        refine dS HT 30 rfl ?_
                        refine dS HT 31 rfl ?_
                        refine dS HT 32 rfl ?_
                        refine dpG HT 33 rfl pK ?_
                        refine dp HT 34 rfl pK ?_
                        refine dE HT ?_
                        clear HT
                        refine aCondT rfl ?_
                        refine aSeq ?_
                        refine aReg ?_
                        refine sp pMa ?_
                        refine oNil ?_
                        refine aRet ?_
                        refine finIs rfl ?_
                        have hs := arcs_step (p := prevA l i) hx13
                        show AV.v (.bool false) = AV.v (.bool (arcsB none l))
                        rw [hv, hs]
                        by_cases h0 : i = 0 <;> simp_all [arcB, nodeB, ordA, prevA, orderA_lt, ltA]
                        all_goals (intros; omega)
                      · skip
                        refine dpG HT 13 rfl pM ?_
                        refine dpG HT 14 rfl pM ?_
                        refine dpG HT 15 rfl pSu ?_
                        first | refine dpG HT 16 rfl (pIx es_22) ?_ | (refine obtDN 63 65 rfl rfl (by omega) (fun x66 hx66 => ?_); refine dpG HT 16 rfl (pIs es_22 hx66) ?_) | (refine obtD 63 65 rfl rfl (by omega) (by omega) (fun x66 hx66 => ?_); refine dpG HT 16 rfl (pIs es_22 hx66) ?_) | refine dpG HT 16 rfl (pIo es_22) ?_
                        refine dpG HT 17 rfl (pFs fd_36_0) ?_
                        refine drG HT 18 rfl (rS1 ty_3) ?_
                        refine dpG HT 19 rfl (pFb fd_36_0) ?_
                        refine drG HT 20 rfl (rB1 ty_3) ?_
                        refine dpG HT 21 rfl pB ?_
                        refine dpG HT 22 rfl pM ?_
                        refine dSplitEq 72 rfl (fun c72 => ?_) (fun c72 => ?_)
                        · skip
                          refine dpG HT 23 rfl pM ?_
                          refine dpG HT 24 rfl pM ?_
                          refine dpG HT 25 rfl pSu ?_
                          first | refine dpG HT 26 rfl (pIx es_22) ?_ | (refine obtDN 73 75 rfl rfl (by omega) (fun x76 hx76 => ?_); refine dpG HT 26 rfl (pIs es_22 hx76) ?_) | (refine obtD 73 75 rfl rfl (by omega) (by omega) (fun x76 hx76 => ?_); refine dpG HT 26 rfl (pIs es_22 hx76) ?_) | refine dpG HT 26 rfl (pIo es_22) ?_
                          refine dpG HT 27 rfl (pFs fd_36_1) ?_
                          refine drG HT 28 rfl (rS1 ty_3) ?_
                          refine dpG HT 29 rfl (pFb fd_36_1) ?_
                          refine drG HT 30 rfl (rB1 ty_3) ?_
                          refine dpG HT 31 rfl pB ?_
                          refine dpG HT 32 rfl pK ?_
                          refine dpG HT 33 rfl pK ?_
                          refine dp HT 34 rfl pK ?_
                          refine dE HT ?_
                          clear HT
                          refine aCondDec rfl (fun c84 => ?_) (fun c84 => ?_)
                          · skip
                            refine aSeq ?_
                            refine aReg ?_
                            refine sp pMa ?_
                            refine oNil ?_
                            refine aRet ?_
                            refine finIs rfl ?_
                            have hs := arcs_step (p := prevA l i) hx13
                            show AV.v (.bool false) = AV.v (.bool (arcsB none l))
                            rw [hv, hs]
                            by_cases h0 : i = 0 <;> simp_all [arcB, nodeB, ordA, prevA, orderA_lt, ltA]
                            all_goals (intros; omega)
                          · skip
                            refine aSkip ?_
                            refine aReg ?_
                            refine sp pM ?_
                            refine sp pAd ?_
                            refine sp pMa ?_
                            refine oNil ?_
                            refine ⟨i + 1, ?_, by (try dsimp only); omega, ⟨gInt rfl (by first | rfl | omega | simp), rfl, trivial⟩, _, (by repeat constructor)⟩
                            have hs := arcs_step (p := prevA l i) hx13
                            refine ⟨by omega, ?_⟩
                            rw [hv, hs, prevA_succ hx13]
                            by_cases h0 : i = 0 <;> simp_all [arcB, nodeB, ordA, prevA, orderA_lt, ltA]
                            all_goals (intros; omega)
                        · skip
                          refine dS HT 23 rfl ?_
                          refine dS HT 24 rfl ?_
                          refine dS HT 25 rfl ?_
                          refine dS HT 26 rfl ?_
                          refine dS HT 27 rfl ?_
                          refine dS HT 28 rfl ?_
                          refine dS HT 29 rfl ?_
                          refine dS HT 30 rfl ?_
                          refine dS HT 31 rfl ?_
                          refine dpG HT 32 rfl pK ?_
                          refine dpG HT 33 rfl pK ?_
                          refine dp HT 34 rfl pK ?_
                          refine dE HT ?_
                          clear HT
                          refine aCondF rfl ?_
                          refine aSkip ?_
                          refine aReg ?_
                          refine sp pM ?_
                          refine sp pAd ?_
                          refine sp pMa ?_
                          refine oNil ?_
                          refine ⟨i + 1, ?_, by (try dsimp only); omega, ⟨gInt rfl (by first | rfl | omega | simp), rfl, trivial⟩, _, (by repeat constructor)⟩
                          have hs := arcs_step (p := prevA l i) hx13
                          refine ⟨by omega, ?_⟩
                          rw [hv, hs, prevA_succ hx13]
                          by_cases h0 : i = 0 <;> simp_all [arcB, nodeB, ordA, prevA, orderA_lt, ltA]
                          all_goals (intros; omega)
                    · skip
                      refine dS HT 3 rfl ?_
                      refine dS HT 4 rfl ?_
                      refine dS HT 5 rfl ?_
                      refine dS HT 6 rfl ?_
                      refine dS HT 7 rfl ?_
                      refine dS HT 8 rfl ?_
                      refine dS HT 9 rfl ?_
                      refine dS HT 10 rfl ?_
                      refine dS HT 11 rfl ?_
                      refine dS HT 12 rfl ?_
                      refine dS HT 13 rfl ?_
                      refine dS HT 14 rfl ?_
                      refine dS HT 15 rfl ?_
                      refine dS HT 16 rfl ?_
                      refine dS HT 17 rfl ?_
                      refine dS HT 18 rfl ?_
                      refine dS HT 19 rfl ?_
                      refine dS HT 20 rfl ?_
                      refine dS HT 21 rfl ?_
                      refine dS HT 22 rfl ?_
                      refine dS HT 23 rfl ?_
                      refine dS HT 24 rfl ?_
                      refine dS HT 25 rfl ?_
                      refine dS HT 26 rfl ?_
                      refine dS HT 27 rfl ?_
                      refine dS HT 28 rfl ?_
                      refine dS HT 29 rfl ?_
                      refine dS HT 30 rfl ?_
                      refine dS HT 31 rfl ?_
                      refine dS HT 32 rfl ?_
                      refine dS HT 33 rfl ?_
                      refine dp HT 34 rfl pK ?_
                      refine dE HT ?_
                      clear HT
                      refine aCondF rfl ?_
                      refine aSkip ?_
                      refine aReg ?_
                      refine sp pM ?_
                      refine sp pAd ?_
                      refine sp pMa ?_
                      refine oNil ?_
                      refine ⟨i + 1, ?_, by (try dsimp only); omega, ⟨gInt rfl (by first | rfl | omega | simp), rfl, trivial⟩, _, (by repeat constructor)⟩
                      have hs := arcs_step (p := prevA l i) hx13
                      refine ⟨by omega, ?_⟩
                      rw [hv, hs, prevA_succ hx13]
                      by_cases h0 : i = 0 <;> simp_all [arcB, nodeB, ordA, prevA, orderA_lt, ltA]
                      all_goals (intros; omega)
    · skip
      refine aExit rfl ?_
      refine aSeq ?_
      refine aReg ?_
      refine sp pMa ?_
      refine oNil ?_
      refine aRet ?_
      refine finIs rfl ?_
      show AV.v (.bool true) = AV.v (.bool _)
      rw [hv, List.drop_of_length_le (by omega)]
      rfl
end A
end Go.Proofs.Ytmcannmjielalaa
set_option linter.unusedVariables false
set_option linter.unusedSimpArgs false
namespace Go.Proofs.Ytmcannmjielalaa
namespace A
theorem op_Arc : OpC Try.prog 36 3 Arc arcC (fun _ => True) :=
  opMap (opStruct Try.underlying36 (by kernel_rfl) (fsCons rfl (by kernel_rfl) (opInt Try.underlying3) (fsCons rfl (by kernel_rfl) (opInt Try.underlying3) (fsCons rfl (by kernel_rfl) (opInt Try.underlying3) fsNil)))) (fun x => ⟨x.1, x.2.1, x.2.2.1⟩) (fun _ => rfl) (fun _ _ => trivial)
theorem op_n2 : OpC Try.prog 33 2 (Int × Int) (fun p => [.int p.1, .int p.2]) (fun _ => True) :=
  opMapP (opArray (g := fun n => .int n) Try.underlying33 (by kernel_rfl) (by kernel_rfl) (opInt Try.underlying3)) (fun l => (l.getD 0 0, l.getD 1 0)) (fun l hl => by match l, hl.1 with | [a, b], _ => rfl) (fun _ _ => trivial)
end A
end Go.Proofs.Ytmcannmjielalaa
set_option linter.unusedVariables false
set_option linter.unusedSimpArgs false
namespace Go.Proofs.Ytmcannmjielalaa
namespace A
def idxF {α : Type} (p : α → Bool) : List α → Int
  | [] => -1
  | x :: l => if p x then 0 else if idxF p l < 0 then -1 else idxF p l + 1
theorem idxF_no {α : Type} {p : α → Bool} : ∀ {l : List α}, (∀ x ∈ l, p x = false) → idxF p l = -1 ∧ l.find? p = none
  | [], _ => ⟨rfl, rfl⟩
  | x :: l, h => by
    have h1 := h x (by simp)
    obtain ⟨h2, h3⟩ := idxF_no (l := l) (fun y hy => h y (by simp [hy]))
    simp [idxF, List.find?, h1, h2, h3]
theorem idxF_at {α : Type} {p : α → Bool} : ∀ {l : List α} {i : Nat} {x : α}, (∀ y ∈ l.take i, p y = false) → l[i]? = some x → p x = true → idxF p l = i ∧ l.find? p = some x
  | [], _, _, _, h, _ => by simp at h
  | y :: l, 0, x, _, h, hp => by simp at h; subst h; simp [idxF, List.find?, hp]
  | y :: l, i + 1, x, h, hx, hp => by
    have h1 := h y (by simp)
    obtain ⟨h2, h3⟩ := idxF_at (l := l) (i := i) (fun z hz => h z (by simp [hz])) (by simpa using hx) hp
    simp only [idxF, List.find?, h1, h2, h3, Bool.false_eq_true, if_false]
    rw [if_neg (by omega)]
    refine ⟨by simp, ?_⟩
    first | rfl | trivial
end A
end Go.Proofs.Ytmcannmjielalaa
set_option linter.unusedVariables false
set_option linter.unusedSimpArgs false
namespace Go.Proofs.Ytmcannmjielalaa
namespace A
theorem el_25 : elemOf Try.prog 25 = some (3, 1, 8) := by kernel_rfl
theorem ty_144 : tyOf Try.prog 144 = some (1, false) := by kernel_rfl
theorem ty_25 : tyOf Try.prog 25 = some (1, false) := by kernel_rfl
theorem ty_256 : tyOf Try.prog 256 = some (1, false) := by kernel_rfl
theorem um_144 : Try.prog.underlying 144 = some (.map 3 4) := by kernel_rfl
theorem um_256 : Try.prog.underlying 256 = some (.map 3 258) := by kernel_rfl
/- maps.Keys[map[int]bool,int,bool]$1 -/
set_option maxRecDepth 100000 in
set_option maxHeartbeats 400000 in
theorem keys1_mib (b pb : Nat) (kvs : List (Int × AV)) (l : Nat) (I : List (List AV) → List HA → Prop) (S : List HA → Prop) (hy : ∀ pre x hc, KNx kvs pre x → I pre hc → YTriple Try.prog l x hc (fun r h' => ∃ v : Bool, r = .v (.bool v) ∧ (v = true → I (pre ++ [x]) h') ∧ (v = false → S h'))) (hc0 : List HA) (h0 : I [] hc0) : Triple Try.prog 215 [.fn (.yield l) [], .v (.pointer (some ⟨pb, 0, none⟩))] (.box pb [.v (.map (some b))] :: .map b kvs :: hc0) (fun r h' => ∃ hc', h' = .box pb [.v (.map (some b))] :: .map b kvs :: hc' ∧ ((∃ xs, KE kvs xs ∧ I xs hc') ∨ S hc')) := by
  refine triple_of Try.func215 rfl (by kernel_rfl) rfl (by simp) ?_
  refine aSeq ?_
  refine aReg ?_
  refine sr (rB1 ty_144) ?_
  refine sa ?_
  refine oRange rfl rfl (by decide) rfl (by repeat constructor) um_144 (fun r5 => ?_)
  refine oNil ?_
  refine aBlock ?_
  refine aLoopI (α := List Nat × List HA) (fun (idx, hc) => Idx kvs.length idx ∧ I (idx.map fun i => intA (keyAt kvs i)) hc) (fun (idx, hc) => ([(0, .fn (.yield l) []), (5, .v (.pointer (some ⟨r5, 0, none⟩)))], .mapIt b r5 kvs idx :: .box pb [.v (.map (some b))] :: hc)) (fun (idx, hc) => kvs.length - idx.length) ([], hc0) ?_ ?_ ?_
  · skip
    exact ⟨Idx.nil, h0⟩
  · skip
    exact weak_env ⟨rfl, rfl, trivial⟩
  · rintro ⟨idx, hc⟩ ⟨hix, hi⟩
    skip
    refine aSeq ?_
    refine aReg ?_
    refine sa ?_
    refine oNextR rfl rfl (by decide) rfl (by repeat constructor) (fun t6 ks6 ix6 hn6 => ?_)
    refine sp pX ?_
    refine oNil ?_
    refine aSeq ?_
    refine aCond rfl (fun c7 => ?_) (fun c7 => ?_)
    · skip
      refine aSkip ?_
      refine aBlock ?_
      refine aSeq ?_
      refine aReg ?_
      obtain ⟨i, kv, hkv, hni, rfl, rfl⟩ := hn6.yes c7
      refine sr (rEntry rfl rfl (by repeat constructor) hkv) ?_
      refine sp pX ?_
      refine sp pMa ?_
      refine oNil ?_
      refine aSeq ?_
      refine aReg ?_
      refine sp pM ?_
      refine sp pM ?_
      refine oYield (hfr := [.mapIt b r5 kvs (idx ++ [i]), .box pb [.v (.map (some b))]]) rfl rfl rfl (by decide) rfl rfl (hy _ (intA kv.1) hc (hix.knx hkv hni) hi) ?_
      rintro _ h2 ⟨v, rfl, hq1, hq2⟩
      refine sp pNo ?_
      refine oNil ?_
      refine aCondNot rfl (fun c13 => ?_) (fun c13 => ?_)
      · skip
        refine aWeak (weak_unmap .hd) ?_
        refine aRet ?_
        exact ⟨_, _, [], rfl, .cons (.tl .hd) (.cons .hd tk_refl), h2, rfl, .inr (hq2 (by simpa using c13))⟩
      · skip
        refine aSkip ?_
        have hil := (List.getElem?_eq_some_iff.1 hkv).1
        have hlt := hix.lt hil hni
        have hq := hq1 (by simpa using c13)
        refine ⟨(idx ++ [i], h2), ⟨hix.add hil hni, ?_⟩, by show kvs.length - (idx ++ [i]).length < kvs.length - idx.length; simp only [List.length_append, List.length_cons, List.length_nil]; omega, weak_env ⟨rfl, rfl, trivial⟩⟩
        rw [List.map_append, List.map_singleton, keyAt_get hkv]
        exact hq
    · skip
      obtain ⟨rfl, rfl, hall⟩ := hn6.no c7
      refine aWeak (weak_unmap .hd) ?_
      refine aExit rfl ?_
      exact ⟨_, _, [], rfl, .cons (.tl .hd) (.cons .hd tk_refl), hc, rfl, .inl ⟨_, hix.ke hall, hi⟩⟩
theorem keys1_mib_iter (b pb : Nat) (kvs : List (Int × AV)) : IterT Try.prog 215 [.v (.pointer (some ⟨pb, 0, none⟩))] (KNx kvs) (KE kvs) [.box pb [.v (.map (some b))], .map b kvs] :=
  ⟨⟨_, Try.func215, by kernel_rfl, rfl⟩, fun l I S hy hc h0 => keys1_mib b pb kvs l I S (fun pre x hc hn hi => (hy pre x hc hn hi).bool) hc h0⟩
/- maps.Keys[map[int]bool,int,bool] -/
set_option maxRecDepth 100000 in
set_option maxHeartbeats 400000 in
theorem keys_mib (b : Nat) : Triple Try.prog 119 [.v (.map (some b))] [] (fun r h' => ∃ pb, r = .fn (.func 215) [.v (.pointer (some ⟨pb, 0, none⟩))] ∧ h' = [.box pb [.v (.map (some b))]]) := by
  refine triple_of Try.func119 rfl (by kernel_rfl) rfl (by simp) ?_
  refine aSeq ?_
  refine aReg ?_
  refine sq ?_
  refine qBox rfl rfl (by decide) rfl rfl (fun b1 => ?_)
  refine sp pMa ?_
  refine oNil ?_
  refine aSeq ?_
  refine aReg ?_
  refine sp (pFn rfl rfl) ?_
  refine sp pMa ?_
  refine oNil ?_
  refine aRet ?_
  exact ⟨_, [_], [], rfl, .cons .hd .nil, b1, rfl, rfl⟩
/- flow.step]$1 -/
set_option maxRecDepth 100000 in
set_option maxHeartbeats 400000 in
theorem keys1_mis (b pb : Nat) (kvs : List (Int × AV)) (l : Nat) (I : List (List AV) → List HA → Prop) (S : List HA → Prop) (hy : ∀ pre x hc, KNx kvs pre x → I pre hc → YTriple Try.prog l x hc (fun r h' => ∃ v : Bool, r = .v (.bool v) ∧ (v = true → I (pre ++ [x]) h') ∧ (v = false → S h'))) (hc0 : List HA) (h0 : I [] hc0) : Triple Try.prog 263 [.fn (.yield l) [], .v (.pointer (some ⟨pb, 0, none⟩))] (.box pb [.v (.map (some b))] :: .map b kvs :: hc0) (fun r h' => ∃ hc', h' = .box pb [.v (.map (some b))] :: .map b kvs :: hc' ∧ ((∃ xs, KE kvs xs ∧ I xs hc') ∨ S hc')) := by
  refine triple_of Try.func263 rfl (by kernel_rfl) rfl (by simp) ?_
  refine aSeq ?_
  refine aReg ?_
  refine sr (rB1 ty_256) ?_
  refine sa ?_
  refine oRange rfl rfl (by decide) rfl (by repeat constructor) um_256 (fun r5 => ?_)
  refine oNil ?_
  refine aBlock ?_
  refine aLoopI (α := List Nat × List HA) (fun (idx, hc) => Idx kvs.length idx ∧ I (idx.map fun i => intA (keyAt kvs i)) hc) (fun (idx, hc) => ([(0, .fn (.yield l) []), (5, .v (.pointer (some ⟨r5, 0, none⟩)))], .mapIt b r5 kvs idx :: .box pb [.v (.map (some b))] :: hc)) (fun (idx, hc) => kvs.length - idx.length) ([], hc0) ?_ ?_ ?_
  · skip
    exact ⟨Idx.nil, h0⟩
  · skip
    exact weak_env ⟨rfl, rfl, trivial⟩
  · rintro ⟨idx, hc⟩ ⟨hix, hi⟩
    skip
    refine aSeq ?_
    refine aReg ?_
    refine sa ?_
    refine oNextR rfl rfl (by decide) rfl (by repeat constructor) (fun t6 ks6 ix6 hn6 => ?_)
    refine sp pX ?_
    refine oNil ?_
    refine aSeq ?_
    refine aCond rfl (fun c7 => ?_) (fun c7 => ?_)
    · skip
      refine aSkip ?_
      refine aBlock ?_
      refine aSeq ?_
      refine aReg ?_
      obtain ⟨i, kv, hkv, hni, rfl, rfl⟩ := hn6.yes c7
      refine sr (rEntry rfl rfl (by repeat constructor) hkv) ?_
      refine sp pX ?_
      refine sp pMa ?_
      refine oNil ?_
      refine aSeq ?_
      refine aReg ?_
      refine sp pM ?_
      refine sp pM ?_
      refine oYield (hfr := [.mapIt b r5 kvs (idx ++ [i]), .box pb [.v (.map (some b))]]) rfl rfl rfl (by decide) rfl rfl (hy _ (intA kv.1) hc (hix.knx hkv hni) hi) ?_
      rintro _ h2 ⟨v, rfl, hq1, hq2⟩
      refine sp pNo ?_
      refine oNil ?_
      refine aCondNot rfl (fun c13 => ?_) (fun c13 => ?_)
      · skip
        refine aWeak (weak_unmap .hd) ?_
        refine aRet ?_
        exact ⟨_, _, [], rfl, .cons (.tl .hd) (.cons .hd tk_refl), h2, rfl, .inr (hq2 (by simpa using c13))⟩
      · skip
        refine aSkip ?_
        have hil := (List.getElem?_eq_some_iff.1 hkv).1
        have hlt := hix.lt hil hni
        have hq := hq1 (by simpa using c13)
        refine ⟨(idx ++ [i], h2), ⟨hix.add hil hni, ?_⟩, by show kvs.length - (idx ++ [i]).length < kvs.length - idx.length; simp only [List.length_append, List.length_cons, List.length_nil]; omega, weak_env ⟨rfl, rfl, trivial⟩⟩
        rw [List.map_append, List.map_singleton, keyAt_get hkv]
        exact hq
    · skip
      obtain ⟨rfl, rfl, hall⟩ := hn6.no c7
      refine aWeak (weak_unmap .hd) ?_
      refine aExit rfl ?_
      exact ⟨_, _, [], rfl, .cons (.tl .hd) (.cons .hd tk_refl), hc, rfl, .inl ⟨_, hix.ke hall, hi⟩⟩
theorem keys1_mis_iter (b pb : Nat) (kvs : List (Int × AV)) : IterT Try.prog 263 [.v (.pointer (some ⟨pb, 0, none⟩))] (KNx kvs) (KE kvs) [.box pb [.v (.map (some b))], .map b kvs] :=
  ⟨⟨_, Try.func263, by kernel_rfl, rfl⟩, fun l I S hy hc h0 => keys1_mis b pb kvs l I S (fun pre x hc hn hi => (hy pre x hc hn hi).bool) hc h0⟩
/- flow.step] -/
set_option maxRecDepth 100000 in
set_option maxHeartbeats 400000 in
theorem keys_mis (b : Nat) : Triple Try.prog 216 [.v (.map (some b))] [] (fun r h' => ∃ pb, r = .fn (.func 263) [.v (.pointer (some ⟨pb, 0, none⟩))] ∧ h' = [.box pb [.v (.map (some b))]]) := by
  refine triple_of Try.func216 rfl (by kernel_rfl) rfl (by simp) ?_
  refine aSeq ?_
  refine aReg ?_
  refine sq ?_
  refine qBox rfl rfl (by decide) rfl rfl (fun b1 => ?_)
  refine sp pMa ?_
  refine oNil ?_
  refine aSeq ?_
  refine aReg ?_
  refine sp (pFn rfl rfl) ?_
  refine sp pMa ?_
  refine oNil ?_
  refine aRet ?_
  exact ⟨_, [_], [], rfl, .cons .hd .nil, b1, rfl, rfl⟩
def srt_ren : Go.Shelf.Ren := ⟨fun | 189 => 193 | 125 => 243 | 257 => 254 | 128 => 282 | 129 => 283 | 294 => 308 | 295 => 309 | 296 => 310 | 297 => 311 | 298 => 312 | 299 => 313 | 216 => 227 | 300 => 314 | 301 => 315 | 328 => 333 | 329 => 320 | 330 => 321 | 331 => 334 | 332 => 335 | 215 => 246 | 343 => 341 | n => n, fun | 28 => 25 | 3 => 3 | 46 => 270 | 0 => 0 | 51 => 313 | 53 => 37 | 4 => 4 | 183 => 307 | 182 => 306 | 131 => 175 | 5 => 5 | 9 => 9 | 218 => 341 | 222 => 344 | 228 => 354 | 229 => 187 | n => n, fun | n => n⟩
theorem srt : Go.Proofs.Lays.n189 Try.prog srt_ren := {
  mixed := by kernel_rfl,
  f125 := Try.func243.trans (congrArg some (by kernel_rfl)),
  f128 := Try.func282.trans (congrArg some (by kernel_rfl)),
  f129 := Try.func283.trans (congrArg some (by kernel_rfl)),
  f189 := Try.func193.trans (congrArg some (by kernel_rfl)),
  f215 := Try.func246.trans (congrArg some (by kernel_rfl)),
  f216 := Try.func227.trans (congrArg some (by kernel_rfl)),
  f257 := Try.func254.trans (congrArg some (by kernel_rfl)),
  f294 := Try.func308.trans (congrArg some (by kernel_rfl)),
  f295 := Try.func309.trans (congrArg some (by kernel_rfl)),
  f296 := Try.func310.trans (congrArg some (by kernel_rfl)),
  f297 := Try.func311.trans (congrArg some (by kernel_rfl)),
  f298 := Try.func312.trans (congrArg some (by kernel_rfl)),
  f299 := Try.func313.trans (congrArg some (by kernel_rfl)),
  f300 := Try.func314.trans (congrArg some (by kernel_rfl)),
  f301 := Try.func315.trans (congrArg some (by kernel_rfl)),
  f328 := Try.func333.trans (congrArg some (by kernel_rfl)),
  f329 := Try.func320.trans (congrArg some (by kernel_rfl)),
  f330 := Try.func321.trans (congrArg some (by kernel_rfl)),
  f331 := Try.func334.trans (congrArg some (by kernel_rfl)),
  f332 := Try.func335.trans (congrArg some (by kernel_rfl)),
  f343 := Try.func341.trans (congrArg some (by kernel_rfl)),
  t0 := Try.underlying0,
  a0 := Try.isAgg0,
  z0 := Try.sizeOf0,
  v0 := Try.zeroValue0,
  t3 := Try.underlying3,
  a3 := Try.isAgg3,
  z3 := Try.sizeOf3,
  v3 := Try.zeroValue3,
  t4 := Try.underlying4,
  a4 := Try.isAgg4,
  z4 := Try.sizeOf4,
  v4 := Try.zeroValue4,
  t5 := Try.underlying5,
  a5 := Try.isAgg5,
  z5 := Try.sizeOf5,
  v5 := Try.zeroValue5,
  t9 := Try.underlying9,
  a9 := Try.isAgg9,
  z9 := Try.sizeOf9,
  v9 := Try.zeroValue9,
  t28 := Try.underlying25,
  a28 := Try.isAgg25,
  z28 := Try.sizeOf25,
  v28 := Try.zeroValue25,
  t46 := Try.underlying270,
  a46 := Try.isAgg270,
  z46 := Try.sizeOf270,
  v46 := Try.zeroValue270,
  t51 := Try.underlying313,
  a51 := Try.isAgg313,
  z51 := Try.sizeOf313,
  v51 := Try.zeroValue313,
  t53 := Try.underlying37,
  a53 := Try.isAgg37,
  z53 := Try.sizeOf37,
  v53 := Try.zeroValue37,
  t131 := Try.underlying175,
  a131 := Try.isAgg175,
  z131 := Try.sizeOf175,
  v131 := Try.zeroValue175,
  t182 := Try.underlying306,
  a182 := Try.isAgg306,
  z182 := Try.sizeOf306,
  v182 := Try.zeroValue306,
  t183 := Try.underlying307,
  a183 := Try.isAgg307,
  z183 := Try.sizeOf307,
  v183 := Try.zeroValue307,
  t218 := Try.underlying341,
  a218 := Try.isAgg341,
  z218 := Try.sizeOf341,
  v218 := Try.zeroValue341,
  t222 := Try.underlying344,
  a222 := Try.isAgg344,
  z222 := Try.sizeOf344,
  v222 := Try.zeroValue344,
  t228 := Try.underlying354,
  a228 := Try.isAgg354,
  z228 := Try.sizeOf354,
  v228 := Try.zeroValue354,
  t229 := Try.underlying187,
  a229 := Try.isAgg187,
  z229 := Try.sizeOf187,
  v229 := Try.zeroValue187 }
/- slices.AppendSeq[[]int,int] -/
set_option maxRecDepth 100000 in
set_option maxHeartbeats 400000 in
theorem appendSeq_int (gf : FuncId) (caps : List AV) (kvs : List (Int × AV)) (hit : List HA) (it : IterT Try.prog gf caps (KNx kvs) (KE kvs) hit) (hl : kvs.length ≤ 1000000) : Triple Try.prog 262 [(.v (.slice none 0 0)), .fn (.func gf) caps] hit (fun r h' => ∃ (ks : List Int) (g : Option Nat) (c : Nat), r = .v (slV g ks.length c) ∧ h' = .sl g c 3 1 (ks.map intA) :: hit ∧ ks.Perm (kvs.map Prod.fst)) := by
  refine triple_of Try.func262 rfl (by kernel_rfl) rfl (by simp) ?_
  refine aSeq ?_
  refine aReg ?_
  refine sq ?_
  refine qBox rfl rfl (by decide) rfl rfl (fun b2 => ?_)
  refine sp pMa ?_
  refine oNil ?_
  refine aSeq ?_
  refine aSeq ?_
  refine aReg ?_
  refine sp pM ?_
  refine oNil ?_
  refine aBlock ?_
  refine aRangeFunc (α := List Int × Option Nat × Nat) (fun (ks, g, c) => [.sl g c 3 1 (ks.map intA), .box b2 [.v (slV g ks.length c)]]) (fun pre (ks, g, c) => pre = ks.map intA) ([], none, 0) rfl (by decide) it ?_ ?_ ?_ ?_ ?_
  · skip
    rintro _ _ ⟨_, _, _, rfl, _⟩; rfl
  · skip
    refine Weak.trans (weak_nil 3 1) ?_
    exact weak_perm (List.perm_append_comm (l₁ := [_, _]))
  · skip
    rfl
  · rintro pre x ⟨ks, g, c⟩ ⟨ks', k, hpre, rfl, hkl⟩ hJ
    replace hJ : pre = ks.map intA := hJ
    obtain rfl : ks = ks' := intA_inj (hJ.symm.trans hpre)
    refine aReg ?_
    refine sp pMa ?_
    refine oNil ?_
    refine aBlock ?_
    refine aReg ?_
    refine sr (by first | exact rS1 ty_25 | exact rB1 ty_25 | exact rAr ty_25 | exact rArL ty_25 | exact rArR2 ty_25) ?_
    refine sp pM ?_
    refine sq ?_
    refine qLit (l := [_]) rfl rfl (by decide) us_25 ty_3 ze_3 rfl (by decide) (by decide) rfl rfl rfl (fun b10 => ?_)
    refine sa ?_
    refine oAppT [_] rfl rfl (by repeat constructor) (srcOwn rfl (by repeat constructor) rfl) el_25 sl_25 (fun g11 k11 => ?_)
    refine sa ?_
    refine oStB rfl rfl rfl rfl (by repeat constructor) ty_25 rfl (Nat.le_of_ble_eq_true rfl) rfl ?_
    refine oNil ?_
    refine ⟨(ks ++ [k], g11, k11), by show pre ++ _ = List.map intA (ks ++ [k]); rw [List.map_append, hJ]; rfl, ?_⟩
    simp only [List.map_append, List.map_cons, List.map_nil, List.length_append, List.length_cons, List.length_nil, List.length_map]
    exact weak_sub trivial (by repeat constructor)
  · rintro xs ⟨ks, g, c⟩ hE hJ
    try dsimp only [List.nil_append, List.cons_append]
    replace hJ : xs = ks.map intA := hJ
    obtain ⟨ks', hks, hperm⟩ := hE
    obtain rfl : ks = ks' := intA_inj (hJ.symm.trans hks)
    refine aWeak (weak_perm List.perm_append_comm) ?_
    refine aSeq ?_
    refine aReg ?_
    refine sr (by first | exact rS1 ty_25 | exact rB1 ty_25 | exact rAr ty_25 | exact rArL ty_25 | exact rArR2 ty_25) ?_
    refine sp pMa ?_
    refine oNil ?_
    refine aRet ?_
    exact ⟨_, _ :: hit, [_], rfl, .cons .hd (tk_after (l := [_])), ks, g, c, rfl, rfl, hperm⟩
/- slices.Collect[int] -/
set_option maxRecDepth 100000 in
set_option maxHeartbeats 400000 in
theorem collect_int (gf : FuncId) (caps : List AV) (kvs : List (Int × AV)) (hit : List HA) (it : IterT Try.prog gf caps (KNx kvs) (KE kvs) hit) (hl : kvs.length ≤ 1000000) : Triple Try.prog 214 [.fn (.func gf) caps] hit (fun r h' => ∃ (ks : List Int) (g : Option Nat) (c : Nat), r = .v (slV g ks.length c) ∧ h' = .sl g c 3 1 (ks.map intA) :: hit ∧ ks.Perm (kvs.map Prod.fst)) := by
  refine triple_of Try.func214 rfl (by kernel_rfl) rfl (by simp) ?_
  refine aSeq ?_
  refine aReg ?_
  refine sp pMa ?_
  refine oNil ?_
  refine aSeq ?_
  refine aReg ?_
  refine sp pM ?_
  refine sa ?_
  refine aCall (hin := hit) (hfr := []) rfl rfl (by decide) rfl rfl tk_refl (appendSeq_int gf caps kvs hit it hl) ?_
  rintro _ _ ⟨ks, g, c, rfl, rfl, hperm⟩
  refine sp pMa ?_
  refine oNil ?_
  refine aRet ?_
  refine ⟨_, _ :: hit, [], rfl, ?_, ks, g, c, rfl, rfl, hperm⟩
  rw [List.append_nil]
  exact tk_refl
/- slices.Sorted[int] -/
set_option maxRecDepth 100000 in
set_option maxHeartbeats 400000 in
theorem sorted_int (gf : FuncId) (caps : List AV) (kvs : List (Int × AV)) (hit : List HA) (it : IterT Try.prog gf caps (KNx kvs) (KE kvs) hit) (hl : kvs.length ≤ 1000000) : Triple Try.prog 118 [.fn (.func gf) caps] hit (fun r h' => ∃ g c, r = .v (slV g (sortI (kvs.map Prod.fst)).length c) ∧ h' = .sl g c 3 1 ((sortI (kvs.map Prod.fst)).map intA) :: hit) := by
  refine triple_of Try.func118 rfl (by kernel_rfl) rfl (by simp) ?_
  refine aSeq ?_
  refine aReg ?_
  refine sp pMa ?_
  refine oNil ?_
  refine aSeq ?_
  refine aReg ?_
  refine sp pM ?_
  refine sa ?_
  refine aCall (hin := hit) (hfr := []) rfl rfl (by decide) rfl rfl tk_refl (collect_int gf caps kvs hit it hl) ?_
  rintro _ _ ⟨ks, g, c, rfl, rfl, hperm⟩
  refine sp pMa ?_
  refine oNil ?_
  refine aSeq ?_
  refine aReg ?_
  refine sp pM ?_
  refine sa ?_
  refine aCall (hin := [_]) (hfr := hit ++ []) rfl rfl (by decide) rfl rfl (.cons .hd .nil) (triple_sort srt rfl ⟨_, Try.func193, by kernel_rfl, rfl⟩ g c 3 ks (by have := hperm.length_eq; rw [List.length_map] at this; omega)) ?_
  rintro _ _ ⟨rfl, rfl⟩
  refine oNil ?_
  refine aSeq ?_
  refine aReg ?_
  refine sp pM ?_
  refine sp pMa ?_
  refine oNil ?_
  refine aRet ?_
  have hs : sortI ks = sortI (kvs.map Prod.fst) := sortI_perm hperm
  refine ⟨_, .sl g c 3 1 ((sortI ks).map intA) :: hit, [], rfl, ?_, g, c, ?_, ?_⟩
  · show Tk (_ :: (hit ++ [])) _ _
    rw [List.append_nil]
    exact tk_refl
  · rw [← hs, sortI_length]; rfl
  · rw [hs]
theorem sorted_int_s (gf : FuncId) (caps : List AV) (kvs : List (Int × AV)) (hit : List HA) (it : IterT Try.prog gf caps (KNx kvs) (KE kvs) hit) (hl : kvs.length ≤ 1000000) : Triple Try.prog 118 [.fn (.func gf) caps] hit (Is (.sl 1 ((sortI (kvs.map Prod.fst)).map intA)) hit) :=
  ((sorted_int gf caps kvs hit it hl).mono (Q' := Own 3 1 ((sortI (kvs.map Prod.fst)).map intA) hit) fun q h' ⟨g, c, hq, hh⟩ => ⟨g, c, by rw [List.length_map]; exact hq, hh⟩).settle
end A
end Go.Proofs.Ytmcannmjielalaa
set_option linter.unusedVariables false
set_option linter.unusedSimpArgs false
namespace Go.Proofs.Ytmcannmjielalaa
namespace A
theorem mo_144 : mapOf Try.prog 144 = some (3, 4) := by kernel_rfl
theorem us_22 : Try.prog.underlying 22 = some (.slice 36) := by kernel_rfl
/- api.Arc] -/
set_option maxRecDepth 100000 in
set_option maxHeartbeats 400000 in
theorem index_Arc {f : FuncId} {caps : List AV} {p : Arc → Bool} (hf : ∀ x : Arc, Triple Try.prog f ([AV.agg (arcC x)] ++ caps) [] (Is (.v (.bool (p x))) [])) (l : List Arc) (hl : l.length ≤ 1000000) : Triple Try.prog 196 [.sl 3 (l.map arcC), .fn (.func f) caps] [] (Is (.v (.int .i64 (idxF p l))) []) := by
  refine triple_of Try.func196 rfl (by kernel_rfl) rfl (by simp) ?_
  refine aSeq ?_
  refine aReg ?_
  refine sp pMa ?_
  refine oNil ?_
  refine aSeq ?_
  refine aSeq ?_
  refine aReg ?_
  refine sp pM ?_
  refine sp (by first | exact pLm sl_22 | exact pLs sl_22) ?_
  refine sp pM ?_
  refine oNil ?_
  refine aBlock ?_
  refine loopF (α := Nat) (kept := [(0, _), (1, _), (7, _)]) (fun i => i ≤ l.length ∧ ∀ y ∈ l.take i, p y = false) (fun i => [(8, .int i)]) (fun i => []) (fun i => l.length - i) 0 ?_ ⟨gInt rfl (by first | rfl | omega | simp), rfl, rfl, rfl, trivial⟩ (by repeat constructor) ?_
  · skip
    exact ⟨by omega, fun y hy => by simp at hy⟩
  · rintro i ⟨hi, hv⟩
    refine aSeq ?_
    refine aReg ?_
    refine sp pB ?_
    refine oNil ?_
    refine aSeq ?_
    refine aCondDec rfl (fun c9 => ?_) (fun c9 => ?_)
    · skip
      refine aSkip ?_
      refine aSeq ?_
      refine aBlock ?_
      refine aSeq ?_
      refine aReg ?_
      refine sp pM ?_
      refine sp pMa ?_
      refine oNil ?_
      refine aSeq ?_
      obtain ⟨x, hx⟩ : ∃ x, l[i]? = some x := ⟨_, List.getElem?_eq_getElem (by omega)⟩
      refine aReg ?_
      refine sp pM ?_
      refine sp pM ?_
      refine sp pM ?_
      first | refine sp (pIx es_22) ?_ | (refine obtSN 12 13 rfl rfl (by omega) (fun x14 hx14 => ?_); refine sp (pIs es_22 hx14) ?_) | (refine obtS 12 13 rfl rfl (by omega) (by omega) (fun x14 hx14 => ?_); refine sp (pIs es_22 hx14) ?_) | refine sp (pIo es_22) ?_
      refine sr (by first | exact rSW ty_36 rfl | exact rSA ty_36) ?_
      refine sq ?_
      refine cv rfl rfl rfl (lents_refl _) (hf x) ?_
      refine oNil ?_
      refine aCond rfl (fun c16 => ?_) (fun c16 => ?_)
      · skip
        refine aSeq ?_
        refine aReg ?_
        refine sp pM ?_
        refine sp pMa ?_
        refine oNil ?_
        refine aRet ?_
        refine finIs rfl ?_
        show AV.int _ = AV.int _
        rw [(idxF_at hv hx (by simp_all)).1]
      · skip
        refine aSkip ?_
        refine aReg ?_
        refine sp pAd ?_
        refine sp pM ?_
        refine oNil ?_
        refine ⟨i + 1, ?_, by (try dsimp only); omega, ⟨gInt rfl (by first | rfl | omega | simp), rfl, rfl, rfl, trivial⟩, _, (by repeat constructor)⟩
        refine ⟨by omega, fun y hy => ?_⟩
        rw [take_step hx] at hy
        rcases List.mem_append.1 hy with hy | hy
        · exact hv y hy
        · rw [List.mem_singleton.1 hy]; simp_all
    · skip
      refine aExit rfl ?_
      refine aSeq ?_
      refine aReg ?_
      refine sp pMa ?_
      refine oNil ?_
      refine aRet ?_
      refine finIs rfl ?_
      show AV.int _ = AV.int _
      rw [take_all (by omega)] at hv
      rw [(idxF_no hv).1]
def endP (v : Int) (a : Arc) : Bool := a.f == v || a.t == v
def nodesM (l : List Arc) : List Int := ((List.range 65).map fun (i : Nat) => (i : Int)).filter fun v => l.any (endP v)
theorem nodesM_sorted (l : List Arc) : (nodesM l).Pairwise (· < ·) := by
  refine List.Pairwise.sublist List.filter_sublist ?_
  rw [List.pairwise_map]
  exact List.pairwise_lt_range.imp (fun h => by omega)
theorem nodesM_mem {l : List Arc} (hl : ∀ a ∈ l, AOk a) {v : Int} : v ∈ nodesM l ↔ ∃ a ∈ l, a.f = v ∨ a.t = v := by
  unfold nodesM endP
  rw [List.mem_filter]
  simp only [List.any_eq_true, Bool.or_eq_true, beq_iff_eq, List.mem_map, List.mem_range]
  refine ⟨fun h => h.2, fun h => ⟨?_, h⟩⟩
  obtain ⟨a, ha, e⟩ := h
  have hok := hl a ha
  unfold AOk at hok
  exact ⟨v.toNat, by omega, by omega⟩
theorem nodesM_len (l : List Arc) : (nodesM l).length ≤ 65 := by
  unfold nodesM
  refine Nat.le_trans (List.length_filter_le _ _) ?_
  simp
theorem nodesM_rng {l : List Arc} (hl : ∀ a ∈ l, AOk a) {v : Int} (h : v ∈ nodesM l) : 1 ≤ v ∧ v ≤ 64 := by
  obtain ⟨a, ha, e⟩ := (nodesM_mem hl).1 h
  have hok := hl a ha
  unfold AOk at hok
  omega
def NodeKeys (l : List Arc) (m : List (Int × Bool)) : Prop := (mKeys m).Nodup ∧ ∀ v, v ∈ mKeys m ↔ ∃ a ∈ l, a.f = v ∨ a.t = v
theorem NodeKeys.put {l : List Arc} {m : List (Int × Bool)} {a : Arc} {b c : Bool} (h : NodeKeys l m) : NodeKeys (l ++ [a]) (mPut (mPut m a.f b) a.t c) := by
  refine ⟨mPut_nodup (mPut_nodup h.1), fun v => ?_⟩
  rw [mPut_keys, mPut_keys, h.2]
  constructor
  · rintro (e | e | ⟨x, hx, e⟩)
    · exact ⟨a, by simp, .inr e.symm⟩
    · exact ⟨a, by simp, .inl e.symm⟩
    · exact ⟨x, by simp [hx], e⟩
  · rintro ⟨x, hx, e⟩
    rcases List.mem_append.1 hx with hx | hx
    · exact .inr (.inr ⟨x, hx, e⟩)
    · rw [List.mem_singleton.1 hx] at e
      rcases e with e | e
      · exact .inr (.inl e.symm)
      · exact .inl e.symm
theorem NodeKeys.sorted {l : List Arc} {m : List (Int × Bool)} (hl : ∀ a ∈ l, AOk a) (h : NodeKeys l m) : sortI (mKeys m) = nodesM l :=
  sortI_eq h.1 (nodesM_sorted l) (fun x => by rw [h.2, nodesM_mem hl])
theorem NodeKeys.len {l : List Arc} {m : List (Int × Bool)} (hl : ∀ a ∈ l, AOk a) (h : NodeKeys l m) : m.length ≤ 65 :=
  mLen h.1 (n := 65) (fun x hx => by have := nodesM_rng hl ((nodesM_mem hl).2 ((h.2 x).1 hx)); omega)
/- graph.Nodes -/
def graph_Nodes_r7_T : Bool × List (List Nat × List Nat) := (true, [([], []), ([], []), ([1], [1]), ([], []), ([], []), ([4], [4]), ([0, 2, 0, 1, 2], [0, 2]), ([3, 5, 6, 0, 1, 2, 3, 4, 5, 6], [3, 5])])
def graph_Nodes_r7_B : List Nat := [0, 0, 2, 0, 0, 16, 7, 127]
theorem graph_Nodes_r7_t : Go.Proofs.YtmcannmjielalaaW.PrintLast.rtab .any (Go.Proofs.YtmcannmjielalaaW.PrintLast.opsOf Try.f29 7) = graph_Nodes_r7_T := by kernel_rfl
theorem graph_Nodes_r7_b : Go.Proofs.YtmcannmjielalaaW.PrintLast.waitsOk graph_Nodes_r7_T.2 graph_Nodes_r7_B = true := by kernel_rfl
set_option maxRecDepth 100000 in
set_option maxHeartbeats 1000000 in
theorem graph_Nodes {l : List Arc} (hl : l.length ≤ 1000000 := by omega) : Triple Try.prog 29 [.sl 3 (l.map arcC)] [] (Own 3 1 ((if arcsB none l then nodesM l else []).map intA) []) := by
  refine triple_of Try.func29 rfl (by kernel_rfl) rfl (by simp) ?_
  refine aSeq ?_
  refine aReg ?_
  refine sp pMa ?_
  refine oNil ?_
  refine aSeq ?_
  refine aSeq ?_
  refine aReg ?_
  refine sp pM ?_
  refine sq ?_
  refine cv rfl rfl rfl (lents_refl _) graph_Check ?_
  refine sp pB ?_
  refine oNil ?_
  refine aCondNe rfl (fun c8 => ?_) (fun c8 => ?_)
  · skip
    refine aSeq ?_
    refine aWeak (weak_nil 3 1) ?_
    refine aReg ?_
    refine sp pMa ?_
    refine oNil ?_
    refine aRet ?_
    refine finOwn rfl ?_
    have hno : arcsB none l = false := by cases h : arcsB none l <;> simp_all
    rw [hno]
    rfl
  · skip
    refine aSkip ?_
    refine aSeq ?_
    have hyes : arcsB none l = true := by cases h : arcsB none l <;> simp_all
    have hok := arcs_ok hyes
    refine aReg ?_
    refine sq ?_
    refine qMM boA rfl (fun b9 => ?_)
    refine sp pMa ?_
    refine oNil ?_
    refine aSeq ?_
    refine aSeq ?_
    refine aReg ?_
    refine sp pM ?_
    refine sp (by first | exact pLm sl_22 | exact pLs sl_22) ?_
    refine sp pM ?_
    refine oNil ?_
    refine aBlock ?_
    refine loopF (α := Nat × List (Int × Bool)) (kept := [(3, _), (10, _), (11, _)]) (fun (i, m) => i ≤ l.length ∧ NodeKeys (l.take i) m) (fun (i, m) => [(12, .int i)]) (fun (i, m) => [.map b9 (kvM boA m)]) (fun (i, m) => l.length - i) (0, []) ?_ ⟨gInt rfl (by first | rfl | omega | simp), rfl, rfl, rfl, trivial⟩ (by repeat constructor) ?_
    · skip
      exact ⟨by omega, by simp [NodeKeys, mKeys]⟩
    · rintro ⟨i, m⟩ ⟨hi, hK⟩
      refine aSeq ?_
      refine aReg ?_
      refine sp pB ?_
      refine oNil ?_
      refine aSeq ?_
      refine aCondDec rfl (fun c13 => ?_) (fun c13 => ?_)
      · skip
        refine aSkip ?_
        refine aSeq ?_
        refine aBlock ?_
        refine aSeq ?_
        obtain ⟨a, ha⟩ : ∃ a, l[i]? = some a := ⟨_, List.getElem?_eq_getElem (by omega)⟩
        refine aReg ?_
        first | refine sp (pIx es_22) ?_ | (refine obtSN 10 12 rfl rfl (by omega) (fun x14 hx14 => ?_); refine sp (pIs es_22 hx14) ?_) | (refine obtS 10 12 rfl rfl (by omega) (by omega) (fun x14 hx14 => ?_); refine sp (pIs es_22 hx14) ?_) | refine sp (pIo es_22) ?_
        refine sr (by first | exact rSW ty_36 rfl | exact rSA ty_36) ?_
        refine sq ?_
        refine qAlloc rfl rfl (by decide) ze_36 rfl (fun b5 => ?_)
        refine sa ?_
        refine oStW rfl rfl rfl rfl (by repeat constructor) ty_36 ?_
        refine oNil ?_
        refine aDrawS (h1 := [.box b5 _]) graph_Nodes_r7_t graph_Nodes_r7_b [] 8 #[false, false, false, false, false, false, false, false] (by kernel_rfl) rfl rfl (by repeat constructor) (fun HT => ?_)
        refine ep HT 0 rfl pM ?_
        refine ep HT 1 rfl (pFb fd_36_0) ?_
        refine er HT 2 rfl (rB1 ty_3) ?_
        refine ep HT 3 rfl pM ?_
        refine ep HT 4 rfl (pFb fd_36_1) ?_
        refine er HT 5 rfl (rB1 ty_3) ?_
        refine eOneS (i := 6) #[true, true, true, true, true, true, true, false] rfl (HT.one (by kernel_rfl)) (by decide) ?_
        · skip
          refine stA (hx := [.map _ _]) (wantN rfl) (fun t ht => by cases ht <;> decide) (.cons (by repeat constructor) .nil) (by repeat constructor) ?_
          first | refine oMP rfl rfl rfl rfl mo_144 ?_ | refine oMapSet rfl rfl rfl rfl rfl (by repeat constructor) mo_144 ?_
          dsimp only [List.cons_append, List.nil_append]
          refine eOneS (i := 7) #[true, true, true, true, true, true, true, true] rfl (HT.one (by kernel_rfl)) (by decide) ?_
          · skip
            refine stA (hx := [.map _ _]) (wantN rfl) (fun t ht => by cases ht <;> decide) (.cons (by repeat constructor) .nil) (by repeat constructor) ?_
            first | refine oMP rfl rfl rfl rfl mo_144 ?_ | refine oMapSet rfl rfl rfl rfl rfl (by repeat constructor) mo_144 ?_
            dsimp only [List.cons_append, List.nil_append]
            refine eE HT ?_
            clear HT
            refine aReg ?_
            refine sp pAd ?_
            refine sp pM ?_
            refine oNil ?_
            refine ⟨(i + 1, _), ?_, by (try dsimp only); omega, ⟨gInt rfl (by first | rfl | omega | simp), rfl, rfl, rfl, trivial⟩, _, (by repeat constructor)⟩
            exact ⟨by omega, by rw [take_step ha]; exact hK.put⟩
      · skip
        rw [take_all (by omega)] at hK
        refine aExit rfl ?_
        refine aSeq ?_
        have hks := hK.sorted hok
        have hml := hK.len hok
        refine aReg ?_
        refine sp pM ?_
        refine sa ?_
        refine ca rfl rfl rfl (keys_mib b9) ?_
        rintro _ _ ⟨pb, rfl, rfl⟩
        refine sa ?_
        refine aCall (hin := _) (hfr := []) rfl rfl (by decide) rfl rfl tk_refl (sorted_int _ _ (kvM boA m) _ (keys1_mib_iter b9 pb (kvM boA m)) (by rw [kvM_len]; omega)) ?_
        rintro _ _ ⟨g, c, rfl, rfl⟩
        rw [kvM_keys, hks]
        refine sp pMa ?_
        refine oNil ?_
        refine aRet ?_
        refine finOwn rfl ?_
        rw [hyes]
        rfl
end A
end Go.Proofs.Ytmcannmjielalaa
set_option linter.unusedVariables false
set_option linter.unusedSimpArgs false
namespace Go.Proofs.Ytmcannmjielalaa
namespace A
theorem st_36 : structPlaces Try.prog 36 = some [(0, 1), (1, 1), (2, 1)] := by kernel_rfl
structure Link where
  t : Int
  c : Int
  deriving DecidableEq
structure Lsa where
  o : Int
  s : Int
  ls : List Link
  deriving DecidableEq
end A
end Go.Proofs.Ytmcannmjielalaa
set_option linter.unusedVariables false
set_option linter.unusedSimpArgs false
namespace Go.Proofs.Ytmcannmjielalaa
namespace A
structure Rt where
  nd : Int
  via : Int
  c : Int
  deriving DecidableEq, Inhabited
end A
end Go.Proofs.Ytmcannmjielalaa
set_option linter.unusedVariables false
set_option linter.unusedSimpArgs false
namespace Go.Proofs.Ytmcannmjielalaa
namespace A
theorem ik_3 : intKindOf Try.prog 3 = some .i64 := by kernel_rfl
theorem ik_37 : intKindOf Try.prog 37 = some .u64 := by kernel_rfl
theorem ty_4 : tyOf Try.prog 4 = some (1, false) := by kernel_rfl
end A
end Go.Proofs.Ytmcannmjielalaa
set_option linter.unusedVariables false
set_option linter.unusedSimpArgs false
namespace Go.Proofs.Ytmcannmjielalaa
namespace A
theorem ze_4 : zeroOf Try.prog 4 = some (.bool false) := by kernel_rfl
end A
end Go.Proofs.Ytmcannmjielalaa
set_option linter.unusedVariables false
set_option linter.unusedSimpArgs false
namespace Go.Proofs.Ytmcannmjielalaa
namespace A
structure Wi where
  a : Int
  b : Int
  u : Bool
  ca : Int
  cb : Int
  deriving DecidableEq, Inhabited
end A
end Go.Proofs.Ytmcannmjielalaa
set_option linter.unusedVariables false
set_option linter.unusedSimpArgs false
namespace Go.Proofs.Ytmcannmjielalaa
namespace A
theorem has_step {l : List Int} {i : Nat} {n x : Int} (hx : l[i]? = some x) (hv : ∀ y ∈ l.take i, y ≠ n) (h : x ≠ n) : ∀ y ∈ l.take (i + 1), y ≠ n := fun y hy => by
  rw [take_step hx] at hy
  rcases List.mem_append.1 hy with hy | hy
  · exact hv y hy
  · rw [List.mem_singleton.1 hy]; exact h
theorem has_no {l : List Int} {n : Int} (h : ∀ y ∈ l, y ≠ n) : l.contains n = false := by
  rw [Bool.eq_false_iff]
  intro h2
  exact h n (by simpa using h2) rfl
theorem has_yes {l : List Int} {i : Nat} {n x : Int} (hx : l[i]? = some x) (h : x = n) : l.contains n = true := by
  subst h
  simpa using List.mem_of_getElem? hx
/- waymarkref27.Has -/
set_option maxRecDepth 100000 in
set_option maxHeartbeats 400000 in
theorem ref27_Has {l : List Int} {n : Int} (hl : l.length < 9223372036854775807) : Triple Try.prog 37 [.sl 1 (l.map intA), .int n] [] (Is (.v (.bool (l.contains n))) []) := by
  refine triple_of Try.func37 rfl (by kernel_rfl) rfl (by simp) ?_
  refine aSeq ?_
  refine aReg ?_
  refine sp pMa ?_
  refine oNil ?_
  refine aSeq ?_
  refine aSeq ?_
  refine aReg ?_
  refine sp pMa ?_
  refine oNil ?_
  refine aBlock ?_
  refine loopF (α := Nat) (kept := [(0, _), (1, _)]) (fun i => i ≤ l.length ∧ ∀ y ∈ l.take i, y ≠ n) (fun i => [(5, .int i)]) (fun i => []) (fun i => l.length - i) 0 ?_ ⟨gInt rfl (by first | rfl | omega | simp), rfl, rfl, trivial⟩ (by repeat constructor) ?_
  · skip
    exact ⟨by omega, fun y hy => by simp at hy⟩
  · rintro i ⟨hi, hv⟩
    refine aSeq ?_
    refine aSeq ?_
    refine aReg ?_
    refine sp pM ?_
    refine sp pM ?_
    refine sp (by first | exact pLm sl_25 | exact pLs sl_25) ?_
    refine sp pB ?_
    refine oNil ?_
    refine aCondDec rfl (fun c9 => ?_) (fun c9 => ?_)
    · skip
      refine aSkip ?_
      refine aSeq ?_
      refine aBlock ?_
      refine aSeq ?_
      obtain ⟨x, hx⟩ : ∃ z, l[i]? = some z := ⟨_, List.getElem?_eq_getElem (by omega)⟩
      refine aReg ?_
      refine sp pM ?_
      refine sp pM ?_
      first | refine sp (pIx es_25) ?_ | (refine obtSN 12 13 rfl rfl (by omega) (fun x14 hx14 => ?_); refine sp (pIs es_25 hx14) ?_) | (refine obtS 12 13 rfl rfl (by omega) (by omega) (fun x14 hx14 => ?_); refine sp (pIs es_25 hx14) ?_) | refine sp (pIo es_25) ?_
      refine sr (rS1 ty_3) ?_
      refine sp pM ?_
      refine sp pB ?_
      refine oNil ?_
      refine aCondEq rfl (fun c17 => ?_) (fun c17 => ?_)
      · skip
        refine aSeq ?_
        refine aReg ?_
        refine sp pMa ?_
        refine oNil ?_
        refine aRet ?_
        refine finIs rfl ?_
        rw [has_yes hx (by omega)]
        rfl
      · skip
        refine aSkip ?_
        refine aReg ?_
        refine sp pM ?_
        refine sp pAd ?_
        refine sp pMa ?_
        refine oNil ?_
        refine ⟨i + 1, ?_, by (try dsimp only); omega, ⟨gInt rfl (by first | rfl | omega | simp), rfl, rfl, trivial⟩, _, (by repeat constructor)⟩
        exact ⟨by omega, has_step hx hv (by omega)⟩
    · skip
      refine aExit rfl ?_
      refine aSeq ?_
      refine aReg ?_
      refine sp pMa ?_
      refine oNil ?_
      refine aRet ?_
      refine finIs rfl ?_
      rw [take_all (by omega)] at hv
      rw [has_no hv]
      rfl
/- slices.Index[[]int,int] -/
set_option maxRecDepth 100000 in
set_option maxHeartbeats 400000 in
theorem index_int {l : List Int} {n : Int} (hl : l.length < 9223372036854775807) : Triple Try.prog 240 [.sl 1 (l.map intA), .int n] [] (fun q h' => ∃ k : Int, q = .int k ∧ h' = [] ∧ decide (0 ≤ k) = l.contains n) := by
  refine triple_of Try.func240 rfl (by kernel_rfl) rfl (by simp) ?_
  refine aSeq ?_
  refine aReg ?_
  refine sp pMa ?_
  refine oNil ?_
  refine aSeq ?_
  refine aSeq ?_
  refine aReg ?_
  refine sp pM ?_
  refine sp (by first | exact pLm sl_25 | exact pLs sl_25) ?_
  refine sp pM ?_
  refine oNil ?_
  refine aBlock ?_
  refine loopF (α := Nat) (kept := [(0, _), (1, _), (7, _)]) (fun i => i ≤ l.length ∧ ∀ y ∈ l.take i, y ≠ n) (fun i => [(8, .int i)]) (fun i => []) (fun i => l.length - i) 0 ?_ ⟨gInt rfl (by first | rfl | omega | simp), rfl, rfl, rfl, trivial⟩ (by repeat constructor) ?_
  · skip
    exact ⟨by omega, fun y hy => by simp at hy⟩
  · rintro i ⟨hi, hv⟩
    refine aSeq ?_
    refine aReg ?_
    refine sp pB ?_
    refine oNil ?_
    refine aSeq ?_
    refine aCondDec rfl (fun c9 => ?_) (fun c9 => ?_)
    · skip
      refine aSkip ?_
      refine aSeq ?_
      refine aBlock ?_
      refine aSeq ?_
      obtain ⟨x, hx⟩ : ∃ z, l[i]? = some z := ⟨_, List.getElem?_eq_getElem (by omega)⟩
      refine aReg ?_
      refine sp pM ?_
      refine sp pMa ?_
      refine oNil ?_
      refine aSeq ?_
      refine aReg ?_
      refine sp pM ?_
      refine sp pM ?_
      refine sp pM ?_
      first | refine sp (pIx es_25) ?_ | (refine obtSN 12 13 rfl rfl (by omega) (fun x14 hx14 => ?_); refine sp (pIs es_25 hx14) ?_) | (refine obtS 12 13 rfl rfl (by omega) (by omega) (fun x14 hx14 => ?_); refine sp (pIs es_25 hx14) ?_) | refine sp (pIo es_25) ?_
      refine sr (rS1 ty_3) ?_
      refine sp pB ?_
      refine oNil ?_
      refine aCondEq rfl (fun c16 => ?_) (fun c16 => ?_)
      · skip
        refine aSeq ?_
        refine aReg ?_
        refine sp pM ?_
        refine sp pMa ?_
        refine oNil ?_
        refine aRet ?_
        refine ⟨_, [], _, rfl, .nil, (i : Int), rfl, rfl, ?_⟩
        rw [has_yes hx (by omega)]
        exact decide_eq_true (by omega)
      · skip
        refine aSkip ?_
        refine aReg ?_
        refine sp pAd ?_
        refine sp pM ?_
        refine oNil ?_
        refine ⟨i + 1, ?_, by (try dsimp only); omega, ⟨gInt rfl (by first | rfl | omega | simp), rfl, rfl, rfl, trivial⟩, _, (by repeat constructor)⟩
        exact ⟨by omega, has_step hx hv (by omega)⟩
    · skip
      refine aExit rfl ?_
      refine aSeq ?_
      refine aReg ?_
      refine sp pMa ?_
      refine oNil ?_
      rw [take_all (by omega)] at hv
      refine aRet ?_
      refine ⟨_, [], _, rfl, .nil, -1, rfl, rfl, ?_⟩
      rw [has_no hv]
      rfl
/- slices.Contains[[]int,int] -/
set_option maxRecDepth 100000 in
set_option maxHeartbeats 400000 in
theorem contains_int {l : List Int} {n : Int} (hl : l.length < 9223372036854775807) : Triple Try.prog 163 [.sl 1 (l.map intA), .int n] [] (Is (.v (.bool (l.contains n))) []) := by
  refine triple_of Try.func163 rfl (by kernel_rfl) rfl (by simp) ?_
  refine aSeq ?_
  refine aReg ?_
  refine sp pMa ?_
  refine oNil ?_
  refine aSeq ?_
  refine aReg ?_
  refine sp pM ?_
  refine sp pM ?_
  refine sa ?_
  refine ca rfl rfl rfl (index_int (l := l) (n := n) hl) ?_
  rintro _ _ ⟨k, rfl, rfl, hk⟩
  refine sp pB ?_
  rw [hk]
  refine sp pMa ?_
  refine oNil ?_
  refine aRet ?_
  refine finIs rfl ?_
  rfl
end A
end Go.Proofs.Ytmcannmjielalaa
set_option linter.unusedVariables false
set_option linter.unusedSimpArgs false
namespace Go.Proofs.Ytmcannmjielalaa
namespace A
abbrev FMap := List (Int × (Int × Bool))
def stpA (s : Int × Bool) : AV := .agg [.int s.1, .v (.bool s.2)]
def arF (l : List Arc) (i : Nat) : Arc := l.getD i default
theorem arF_at {l : List Arc} {i : Nat} {a : Arc} (h : l[i]? = some a) : arF l i = a := by unfold arF; rw [List.getD, h]; rfl
theorem arF_get {l : List Arc} {i : Nat} (h : i < l.length) : l[i]? = some (arF l i) := by unfold arF; rw [List.getD, List.getElem?_eq_getElem h]; rfl
def gvF (G : List Int) (i : Nat) : Int := G.getD i 0
theorem gvF_get {G : List Int} {i : Nat} (h : i < G.length) : G[i]? = some (gvF G i) := by unfold gvF; rw [List.getD, List.getElem?_eq_getElem h]; rfl
theorem gvF_at {G : List Int} {i : Nat} {x : Int} (h : G[i]? = some x) : gvF G i = x := by unfold gvF; rw [List.getD, h]; rfl
def enS (l : List Arc) (i : Nat) (bk : Bool) : Int × Int := if bk then ((arF l i).t, (arF l i).f) else ((arF l i).f, (arF l i).t)
def lfS (l : List Arc) (G : List Int) (i : Nat) (bk : Bool) : Int := if bk then gvF G i else (arF l i).c - gvF G i
def trF (l : List Arc) (G : List Int) (h : Int) (S : FMap × List Int) (i : Nat) (bk : Bool) : FMap × List Int :=
  if (enS l i bk).1 = h ∧ mGet S.1 (enS l i bk).2 = none ∧ 0 < lfS l G i bk then (mPut S.1 (enS l i bk).2 ((i : Int), bk), S.2 ++ [(enS l i bk).2]) else S
def trA (l : List Arc) (G : List Int) (h : Int) (S : FMap × List Int) (i : Nat) : FMap × List Int := trF l G h (trF l G h S i false) i true
def trK (l : List Arc) (G : List Int) (h : Int) (S : FMap × List Int) (i : Nat) : Nat → FMap × List Int
  | 0 => S
  | 1 => trF l G h S i false
  | _ => trA l G h S i
def scF (l : List Arc) (G : List Int) (h : Int) (S : FMap × List Int) (n : Nat) : FMap × List Int := (List.range n).foldl (trA l G h) S
theorem scF_step {l : List Arc} {G : List Int} {h : Int} {S : FMap × List Int} {n : Nat} : scF l G h S (n + 1) = trA l G h (scF l G h S n) n := by
  unfold scF
  rw [List.range_succ, List.foldl_append]
  rfl
inductive Rch (l : List Arc) (G : List Int) : FMap × List Int → FMap → Prop
  | done {m : FMap} : Rch l G (m, []) m
  | step {m r : FMap} {h : Int} {q : List Int} : Rch l G (scF l G h (m, q) l.length) r → Rch l G (m, h :: q) r
inductive RW (l : List Arc) (G : List Int) (fr : Int) : FMap → Prop
  | base : RW l G fr [(fr, (-1, false))]
  | snoc {m : FMap} {i : Nat} {bk : Bool} : RW l G fr m → i < l.length → 0 < lfS l G i bk → (enS l i bk).1 ∈ mKeys m → (enS l i bk).2 ∉ mKeys m → RW l G fr (m ++ [((enS l i bk).2, ((i : Int), bk))])
theorem mGet_none {β : Type} {n : Int} : ∀ {m : List (Int × β)}, mGet m n = none ↔ n ∉ mKeys m := fun {m} => by
  rw [← mGet_mem (m := m) (n := n)]
  cases mGet m n <;> simp
theorem mPut_new {β : Type} {n : Int} {v : β} : ∀ {m : List (Int × β)}, n ∉ mKeys m → mPut m n v = m ++ [(n, v)]
  | [], _ => rfl
  | (k, u) :: t, h => by
    have h1 : ¬ n = k := fun e => h (by rw [e]; simp [mKeys])
    have h2 : n ∉ mKeys t := fun e => h (by simp [mKeys] at e ⊢; exact .inr e)
    simp only [mPut]
    rw [if_neg h1, mPut_new h2]
    rfl
theorem mKeys_app {β : Type} (m k : List (Int × β)) : mKeys (m ++ k) = mKeys m ++ mKeys k := by unfold mKeys; exact List.map_append
theorem mGet_app {β : Type} {n : Int} {v : β} : ∀ {m k : List (Int × β)}, mGet m n = some v → mGet (m ++ k) n = some v
  | [], _, h => by simp [mGet] at h
  | (j, u) :: t, k, h => by
    simp only [mGet, List.cons_append] at h ⊢
    by_cases e : n = j
    · rw [if_pos e] at h ⊢; exact h
    · rw [if_neg e] at h ⊢; exact mGet_app h
theorem mGet_last {β : Type} {n : Int} {v : β} : ∀ {m : List (Int × β)}, n ∉ mKeys m → mGet (m ++ [(n, v)]) n = some v
  | [], _ => by simp [mGet]
  | (j, u) :: t, h => by
    have h1 : ¬ n = j := fun e => h (by rw [e]; simp [mKeys])
    have h2 : n ∉ mKeys t := fun e => h (by simp [mKeys] at e ⊢; exact .inr e)
    simp only [mGet, List.cons_append]
    rw [if_neg h1]
    exact mGet_last h2
structure RQ (l : List Arc) (G : List Int) (fr : Int) (S : FMap × List Int) : Prop where
  rw : RW l G fr S.1
  sub : ∀ x ∈ S.2, x ∈ mKeys S.1
theorem trF_keys {l : List Arc} {G : List Int} {h : Int} {S : FMap × List Int} {i : Nat} {bk : Bool} {x : Int} (hx : x ∈ mKeys S.1) : x ∈ mKeys (trF l G h S i bk).1 := by
  unfold trF
  split
  · exact mPut_keys.2 (.inr hx)
  · exact hx
theorem RQ.tr {l : List Arc} {G : List Int} {fr h : Int} {S : FMap × List Int} {i : Nat} {bk : Bool} (r : RQ l G fr S) (hi : i < l.length) (hh : h ∈ mKeys S.1) : RQ l G fr (trF l G h S i bk) := by
  unfold trF
  split
  · rename_i hc
    obtain ⟨h1, h2, h3⟩ := hc
    have h2 := mGet_none.1 h2
    refine ⟨?_, fun x hx => ?_⟩
    · show RW l G fr (mPut _ _ _)
      rw [mPut_new h2]
      exact .snoc r.rw hi h3 (by rw [h1]; exact hh) h2
    · rcases List.mem_append.1 hx with hx | hx
      · exact mPut_keys.2 (.inr (r.sub x hx))
      · exact mPut_keys.2 (.inl (List.mem_singleton.1 hx))
  · exact r
theorem filt_lt {p q : Int → Bool} (h : ∀ x, q x = true → p x = true) {b : Int} (h1 : p b = true) (h2 : q b = false) : ∀ {U : List Int}, b ∈ U → (U.filter q).length + 1 ≤ (U.filter p).length
  | [], hb => by simp at hb
  | x :: U, hb => by
    have hle : ∀ U : List Int, (U.filter q).length ≤ (U.filter p).length := fun U => by
      induction U with
      | nil => exact Nat.le_refl _
      | cons y U ih =>
        rw [List.filter_cons, List.filter_cons]
        cases hq : q y
        · rw [if_neg (by simp)]
          split
          · simp only [List.length_cons]; omega
          · exact ih
        · rw [if_pos rfl, h y hq, if_pos rfl]
          simp only [List.length_cons]; omega
    by_cases e : b = x
    · subst e
      rw [List.filter_cons, List.filter_cons, h1, h2, if_pos rfl, if_neg (by simp)]
      have := hle U
      simp only [List.length_cons]; omega
    · have hb : b ∈ U := (List.mem_cons.1 hb).resolve_left e
      have ih := filt_lt h h1 h2 hb
      rw [List.filter_cons, List.filter_cons]
      cases hq : q x
      · rw [if_neg (by simp)]
        split
        · simp only [List.length_cons]; omega
        · exact ih
      · rw [if_pos rfl, h x hq, if_pos rfl]
        simp only [List.length_cons]; omega
def endsU (l : List Arc) : List Int := l.flatMap fun a => [a.f, a.t]
theorem endsU_len : ∀ l : List Arc, (endsU l).length = 2 * l.length
  | [] => rfl
  | a :: l => by
    have := endsU_len l
    unfold endsU at this ⊢
    rw [List.flatMap_cons, List.length_append, this]
    simp only [List.length_cons, List.length_nil]; omega
def unF (l : List Arc) (m : FMap) : Nat := ((endsU l).filter fun v => !(mKeys m).contains v).length
theorem unF_le (l : List Arc) (m : FMap) : unF l m ≤ 2 * l.length := by
  unfold unF
  have := List.length_filter_le (fun v => !(mKeys m).contains v) (endsU l)
  rw [endsU_len] at this
  exact this
theorem enS_mem {l : List Arc} {i : Nat} {bk : Bool} (hi : i < l.length) : (enS l i bk).2 ∈ endsU l := by
  have hm := List.mem_of_getElem? (arF_get hi)
  unfold endsU
  refine List.mem_flatMap.2 ⟨_, hm, ?_⟩
  unfold enS
  cases bk <;> simp
theorem unF_put {l : List Arc} {m : FMap} {b : Int} {v : Int × Bool} (hb : b ∈ endsU l) (hn : b ∉ mKeys m) : unF l (mPut m b v) + 1 ≤ unF l m := by
  unfold unF
  refine filt_lt (fun x hx => ?_) ?_ ?_ hb
  · simp only [Bool.not_eq_true', List.contains_eq_mem, decide_eq_false_iff_not] at hx ⊢
    exact fun h => hx (mPut_keys.2 (.inr h))
  · simp only [Bool.not_eq_true', List.contains_eq_mem, decide_eq_false_iff_not]; exact hn
  · simp only [Bool.not_eq_false', List.contains_eq_mem, decide_eq_true_eq]; exact mPut_keys.2 (.inl rfl)
theorem trF_un {l : List Arc} {G : List Int} {h : Int} {S : FMap × List Int} {i : Nat} {bk : Bool} (hi : i < l.length) : unF l (trF l G h S i bk).1 + (trF l G h S i bk).2.length ≤ unF l S.1 + S.2.length := by
  unfold trF
  split
  · rename_i hc
    have := unF_put (v := ((i : Int), bk)) (enS_mem (bk := bk) hi) (mGet_none.1 hc.2.1)
    simp only [List.length_append, List.length_singleton]
    omega
  · exact Nat.le_refl _
inductive Way (l : List Arc) (G : List Int) (m : FMap) (fr : Int) : Int → List (Nat × Bool) → Prop
  | nil : Way l G m fr fr []
  | cons {v : Int} {i : Nat} {bk : Bool} {r : List (Nat × Bool)} : v ≠ fr → mGet m v = some ((i : Int), bk) → i < l.length → (enS l i bk).2 = v → 0 < lfS l G i bk → Way l G m fr (enS l i bk).1 r → Way l G m fr v ((i, bk) :: r)
theorem Way.mono {l : List Arc} {G : List Int} {m k : FMap} {fr v : Int} {w : List (Nat × Bool)} (h : Way l G m fr v w) : Way l G (m ++ k) fr v w := by
  induction h with
  | nil => exact .nil
  | cons h1 h2 h3 h4 h5 _ ih => exact .cons h1 (mGet_app h2) h3 h4 h5 ih
theorem RW.fr {l : List Arc} {G : List Int} {fr : Int} {m : FMap} (h : RW l G fr m) : fr ∈ mKeys m := by
  induction h with
  | base => simp [mKeys]
  | snoc _ _ _ _ _ ih => rw [mKeys_app]; exact List.mem_append_left _ ih
theorem RW.way {l : List Arc} {G : List Int} {fr : Int} {m : FMap} (h : RW l G fr m) : ∀ v ∈ mKeys m, ∃ w, Way l G m fr v w ∧ (∀ s ∈ w, (enS l s.1 s.2).1 ∈ mKeys m ∧ (enS l s.1 s.2).2 ∈ mKeys m) ∧ (w.map Prod.fst).Nodup := by
  induction h with
  | base =>
    intro v hv
    have : v = fr := by simpa [mKeys] using hv
    subst this
    exact ⟨[], .nil, fun s hs => by simp at hs, by simp⟩
  | snoc hr h1 h2 h3 h4 ih =>
    rename_i m i bk
    intro v hv
    have hk : mKeys (m ++ [((enS l i bk).2, ((i : Int), bk))]) = mKeys m ++ [(enS l i bk).2] := by rw [mKeys_app]; rfl
    rw [hk] at hv ⊢
    rcases List.mem_append.1 hv with hv | hv
    · obtain ⟨w, w1, w2, w3⟩ := ih v hv
      exact ⟨w, w1.mono, fun s hs => ⟨List.mem_append_left _ (w2 s hs).1, List.mem_append_left _ (w2 s hs).2⟩, w3⟩
    · have := List.mem_singleton.1 hv
      subst this
      obtain ⟨w, w1, w2, w3⟩ := ih _ h3
      refine ⟨(i, bk) :: w, .cons (fun e => h4 (by rw [e]; exact hr.fr)) (mGet_last h4) h1 rfl h2 w1.mono, fun s hs => ?_, ?_⟩
      · rcases List.mem_cons.1 hs with rfl | hs
        · exact ⟨List.mem_append_left _ h3, by simp⟩
        · exact ⟨List.mem_append_left _ (w2 s hs).1, List.mem_append_left _ (w2 s hs).2⟩
      · rw [List.map_cons, List.nodup_cons]
        refine ⟨fun hm => ?_, w3⟩
        obtain ⟨⟨j, b2⟩, hs, he⟩ := List.mem_map.1 hm
        simp only at he
        subst he
        have h5 := w2 _ hs
        simp only at h5
        unfold enS at h4 h5
        cases bk <;> cases b2 <;> simp at h4 h5 <;> simp_all
theorem Way.at {l : List Arc} {G : List Int} {m : FMap} {fr v : Int} {w : List (Nat × Bool)} (h : Way l G m fr v w) : ∀ s ∈ w, s.1 < l.length ∧ 0 < lfS l G s.1 s.2 := by
  induction h with
  | nil => intro s hs; simp at hs
  | cons _ _ h3 _ h5 _ ih =>
    intro s hs
    rcases List.mem_cons.1 hs with rfl | hs
    · exact ⟨h3, h5⟩
    · exact ih s hs
def upF (n : Int) (G : List Int) (s : Nat × Bool) : List Int := G.set s.1 (if s.2 then gvF G s.1 - n else gvF G s.1 + n)
def upsF (n : Int) (G : List Int) (w : List (Nat × Bool)) : List Int := w.foldl (upF n) G
theorem upF_len (n : Int) (G : List Int) (s : Nat × Bool) : (upF n G s).length = G.length := by unfold upF; exact List.length_set
theorem upsF_len (n : Int) : ∀ (w : List (Nat × Bool)) (G : List Int), (upsF n G w).length = G.length
  | [], _ => rfl
  | s :: w, G => (upsF_len n w (upF n G s)).trans (upF_len n G s)
theorem upsF_step {n : Int} {G : List Int} {w : List (Nat × Bool)} {k : Nat} {s : Nat × Bool} (h : w[k]? = some s) : upsF n G (w.take (k + 1)) = upF n (upsF n G (w.take k)) s := by
  unfold upsF
  rw [take_step h, List.foldl_append]
  rfl
theorem gvF_set {G : List Int} {i j : Nat} {x : Int} (hi : i < G.length) : gvF (G.set i x) j = if i = j then x else gvF G j := by
  unfold gvF
  rw [List.getD, List.getD, List.getElem?_set]
  by_cases e : i = j
  · rw [if_pos e, if_pos hi, if_pos e]; rfl
  · rw [if_neg e, if_neg e]
theorem upsF_out {n : Int} {j : Nat} : ∀ {w : List (Nat × Bool)} {G : List Int}, j ∉ w.map Prod.fst → gvF (upsF n G w) j = gvF G j
  | [], _, _ => rfl
  | s :: w, G, h => by
    rw [List.map_cons, List.mem_cons, not_or] at h
    have h1 : upsF n G (s :: w) = upsF n (upF n G s) w := rfl
    rw [h1, upsF_out h.2]
    unfold upF
    by_cases hi : s.1 < G.length
    · rw [gvF_set hi, if_neg (fun e => h.1 e.symm)]
    · rw [List.set_eq_of_length_le (by omega)]
theorem upsF_in {n : Int} {j : Nat} {bk : Bool} : ∀ {w : List (Nat × Bool)} {G : List Int}, (w.map Prod.fst).Nodup → (j, bk) ∈ w → j < G.length → gvF (upsF n G w) j = if bk then gvF G j - n else gvF G j + n
  | [], _, _, h, _ => by simp at h
  | s :: w, G, hn, h, hj => by
    rw [List.map_cons, List.nodup_cons] at hn
    have h1 : upsF n G (s :: w) = upsF n (upF n G s) w := rfl
    rw [h1]
    rcases List.mem_cons.1 h with rfl | h
    · rw [upsF_out hn.1]
      unfold upF
      rw [gvF_set hj, if_pos rfl]
    · rw [upsF_in hn.2 h (by rw [upF_len]; exact hj)]
      have hne : s.1 ≠ j := fun e => hn.1 (by rw [e]; exact List.mem_map.2 ⟨_, h, rfl⟩)
      have : gvF (upF n G s) j = gvF G j := by
        unfold upF
        by_cases hi : s.1 < G.length
        · rw [gvF_set hi, if_neg hne]
        · rw [List.set_eq_of_length_le (by omega)]
      rw [this]
def pot : List Arc → List Int → (Int → Int) → Int
  | a :: l, g :: G, φ => g * (φ a.f - φ a.t) + pot l G φ
  | _, _, _ => 0
theorem pot_set {φ : Int → Int} {x : Int} : ∀ {l : List Arc} {G : List Int} {i : Nat}, i < l.length → G.length = l.length → pot l (G.set i x) φ = pot l G φ + (x - gvF G i) * (φ (arF l i).f - φ (arF l i).t)
  | [], _, _, hi, _ => by simp at hi
  | a :: l, [], _, _, hg => by simp at hg
  | a :: l, g :: G, 0, _, _ => by
    show x * _ + pot l G φ = g * _ + pot l G φ + (x - g) * (φ a.f - φ a.t)
    rw [Int.sub_mul]
    omega
  | a :: l, g :: G, i + 1, hi, hg => by
    have := pot_set (φ := φ) (x := x) (l := l) (G := G) (i := i) (by simpa using hi) (by simpa using hg)
    show g * _ + pot l (G.set i x) φ = g * _ + pot l G φ + (x - gvF G i) * (φ (arF l i).f - φ (arF l i).t)
    rw [this]
    omega
theorem pot_up {φ : Int → Int} {n : Int} {l : List Arc} {G : List Int} {i : Nat} {bk : Bool} (hi : i < l.length) (hg : G.length = l.length) : pot l (upF n G (i, bk)) φ = pot l G φ + (n * φ (enS l i bk).1 - n * φ (enS l i bk).2) := by
  unfold upF
  rw [pot_set hi hg]
  unfold enS
  cases bk
  · simp only [Bool.false_eq_true, if_false]
    rw [show gvF G i + n - gvF G i = n by omega, Int.mul_sub]
  · simp only [if_true]
    rw [show gvF G i - n - gvF G i = -n by omega, Int.mul_sub, Int.neg_mul, Int.neg_mul]
    omega
theorem pot_ups {φ : Int → Int} {n : Int} {l : List Arc} {G : List Int} {m : FMap} {fr v : Int} {w : List (Nat × Bool)} (h : Way l G m fr v w) : ∀ G0 : List Int, G0.length = l.length → pot l (upsF n G0 w) φ = pot l G0 φ + (n * φ fr - n * φ v) := by
  induction h with
  | nil => intro G0 _; show pot l G0 φ = _; omega
  | cons h1 h2 h3 h4 h5 _ ih =>
    rename_i v i bk r hw0
    intro G0 hg
    have e : upsF n G0 ((i, bk) :: r) = upsF n (upF n G0 (i, bk)) r := rfl
    rw [e, ih _ (by rw [upF_len]; exact hg), pot_up h3 hg, h4]
    omega
def btF (l : List Arc) (G : List Int) (w : List (Nat × Bool)) (n0 : Int) : Int := w.foldl (fun n s => min n (lfS l G s.1 s.2)) n0
theorem btF_step {l : List Arc} {G : List Int} {w : List (Nat × Bool)} {k : Nat} {s : Nat × Bool} {n0 : Int} (h : w[k]? = some s) : btF l G (w.take (k + 1)) n0 = min (btF l G (w.take k) n0) (lfS l G s.1 s.2) := by
  unfold btF
  rw [take_step h, List.foldl_append]
  rfl
theorem btF_le0 {l : List Arc} {G : List Int} : ∀ (w : List (Nat × Bool)) (n0 : Int), btF l G w n0 ≤ n0
  | [], _ => Int.le_refl _
  | s :: w, n0 => by
    have := btF_le0 (l := l) (G := G) w (min n0 (lfS l G s.1 s.2))
    show btF l G w (min n0 (lfS l G s.1 s.2)) ≤ n0
    omega
theorem btF_le {l : List Arc} {G : List Int} : ∀ (w : List (Nat × Bool)) (n0 : Int), ∀ s ∈ w, btF l G w n0 ≤ lfS l G s.1 s.2
  | [], _, s, hs => by simp at hs
  | t :: w, n0, s, hs => by
    show btF l G w (min n0 (lfS l G t.1 t.2)) ≤ _
    rcases List.mem_cons.1 hs with rfl | hs
    · have := btF_le0 (l := l) (G := G) w (min n0 (lfS l G s.1 s.2))
      omega
    · exact btF_le w _ s hs
theorem btF_pos {l : List Arc} {G : List Int} : ∀ (w : List (Nat × Bool)) (n0 : Int), 0 < n0 → (∀ s ∈ w, 0 < lfS l G s.1 s.2) → 0 < btF l G w n0
  | [], _, h, _ => h
  | t :: w, n0, h, hw => by
    have := hw t (by simp)
    exact btF_pos w (min n0 (lfS l G t.1 t.2)) (by omega) (fun s hs => hw s (List.mem_cons_of_mem _ hs))
def hdF (l : List Arc) (G : List Int) (w : List (Nat × Bool)) : Int := lfS l G (w.getD 0 (0, false)).1 (w.getD 0 (0, false)).2
def ptF (l : List Arc) (G : List Int) (w : List (Nat × Bool)) : List Int := upsF (btF l G w (hdF l G w)) G w
def st0F (fr : Int) : FMap × List Int := ([(fr, (-1, false))], [fr])
def PushN (l : List Arc) (fr to_ : Int) (G : List Int) : Prop := ∃ m, Rch l G (st0F fr) m ∧ mGet m to_ = none
def PushS (l : List Arc) (fr to_ : Int) (G G' : List Int) : Prop := ∃ m w, Rch l G (st0F fr) m ∧ Way l G m fr to_ w ∧ w ≠ [] ∧ G' = ptF l G w
inductive Gr (l : List Arc) (fr to_ : Int) : List Int → List Int → Prop
  | done {G : List Int} : PushN l fr to_ G → Gr l fr to_ G G
  | step {G G' R : List Int} : PushS l fr to_ G G' → Gr l fr to_ G' R → Gr l fr to_ G R
structure FlOk (l : List Arc) (fr to_ : Int) (G : List Int) (V : Int) : Prop where
  len : G.length = l.length
  rng : ∀ i, i < l.length → 0 ≤ gvF G i ∧ gvF G i ≤ (arF l i).c
  pos : 0 ≤ V
  law : ∀ φ : Int → Int, pot l G φ = V * (φ fr - φ to_)
theorem pot_zero (φ : Int → Int) : ∀ (l : List Arc) (n : Nat), pot l (List.replicate n 0) φ = 0
  | [], n => by unfold pot; rfl
  | a :: l, 0 => rfl
  | a :: l, n + 1 => by
    show 0 * _ + pot l (List.replicate n 0) φ = 0
    rw [pot_zero φ l n]
    omega
theorem FlOk.zero {l : List Arc} (hl : ∀ a ∈ l, AOk a) (fr to_ : Int) : FlOk l fr to_ (List.replicate l.length 0) 0 :=
  ⟨by simp, fun i hi => by
    have := hl _ (List.mem_of_getElem? (arF_get hi))
    unfold AOk at this
    have h0 : gvF (List.replicate l.length 0) i = 0 := gvF_at (by rw [List.getElem?_replicate, if_pos hi])
    omega, Int.le_refl _, fun φ => by rw [pot_zero]; omega⟩
theorem FlOk.push {l : List Arc} {fr to_ V : Int} {G : List Int} {m : FMap} {w : List (Nat × Bool)} (h : FlOk l fr to_ G V) (hw : Way l G m fr to_ w) (hn : (w.map Prod.fst).Nodup) (hne : w ≠ []) : FlOk l fr to_ (ptF l G w) (V + btF l G w (hdF l G w)) ∧ 0 < btF l G w (hdF l G w) := by
  have hat := hw.at
  have hhd : 0 < hdF l G w := by
    cases w with
    | nil => exact absurd rfl hne
    | cons s w => exact (hat s (by simp)).2
  have hpos := btF_pos (l := l) (G := G) w _ hhd (fun s hs => (hat s hs).2)
  refine ⟨⟨?_, fun i hi => ?_, by have := h.pos; omega, fun φ => ?_⟩, hpos⟩
  · unfold ptF; rw [upsF_len]; exact h.len
  · have hr := h.rng i hi
    unfold ptF
    by_cases hm : i ∈ w.map Prod.fst
    · obtain ⟨⟨j, bk⟩, hs, he⟩ := List.mem_map.1 hm
      simp only at he
      subst he
      have hle := btF_le (l := l) (G := G) w (hdF l G w) _ hs
      rw [upsF_in hn hs (by rw [h.len]; exact hi)]
      unfold lfS at hle
      cases bk
      · simp only [Bool.false_eq_true, if_false] at hle ⊢; omega
      · simp only [if_true] at hle ⊢; omega
    · rw [upsF_out hm]; exact hr
  · unfold ptF
    rw [pot_ups hw G h.len, h.law φ, Int.add_mul, Int.mul_sub (btF l G w (hdF l G w))]
theorem pot_le {φ : Int → Int} : ∀ {l : List Arc} {G : List Int}, (∀ v, φ v = 0 ∨ φ v = 1) → (∀ i, i < l.length → 0 ≤ gvF G i ∧ gvF G i ≤ (arF l i).c) → pot l G φ ≤ (l.map fun a => if φ a.f = 1 ∧ φ a.t = 0 then a.c else 0).sum
  | [], _, _, _ => by unfold pot; simp
  | a :: l, [], h, hr => by
    have h0 := hr 0 (by simp)
    have ih := pot_le (φ := φ) (l := l) (G := []) h (fun i hi => by
      have := hr (i + 1) (by simpa using hi)
      exact this)
    have e : pot l [] φ = 0 := by cases l <;> rfl
    rw [e] at ih
    have e2 : pot (a :: l) [] φ = 0 := rfl
    rw [e2, List.map_cons, List.sum_cons]
    have h1 : (0 : Int) ≤ a.c := by
      have h2 : (0 : Int) ≤ gvF [] 0 ∧ gvF [] 0 ≤ a.c := h0
      omega
    split <;> omega
  | a :: l, g :: G, h, hr => by
    have h0 : 0 ≤ g ∧ g ≤ a.c := hr 0 (by simp)
    have ih := pot_le (φ := φ) (l := l) (G := G) h (fun i hi => hr (i + 1) (by simpa using hi))
    show g * (φ a.f - φ a.t) + pot l G φ ≤ _
    rw [List.map_cons, List.sum_cons]
    rcases h a.f with h1 | h1 <;> rcases h a.t with h2 | h2 <;> rw [h1, h2] <;> simp <;> omega
theorem pot_abs {φ : Int → Int} {C : Int} (h : ∀ v, φ v = 0 ∨ φ v = 1) : ∀ {l : List Arc} {G : List Int}, (∀ a ∈ l, a.c ≤ C) → 0 ≤ C → (∀ i, i < l.length → 0 ≤ gvF G i ∧ gvF G i ≤ (arF l i).c) → -(l.length * C) ≤ pot l G φ ∧ pot l G φ ≤ l.length * C
  | [], _, _, _, _ => by unfold pot; simp
  | a :: l, [], hC, h0, _ => by
    have e : pot (a :: l) [] φ = 0 := rfl
    have : 0 ≤ (((a :: l).length : Nat) : Int) * C := Int.mul_nonneg (by omega) h0
    rw [e]
    omega
  | a :: l, g :: G, hC, h0, hr => by
    have hg : 0 ≤ g ∧ g ≤ a.c := hr 0 (by simp)
    have ih := pot_abs (φ := φ) h (l := l) (G := G) (fun b hb => hC b (List.mem_cons_of_mem _ hb)) h0 (fun i hi => hr (i + 1) (by simpa using hi))
    have hc := hC a (by simp)
    have e : (((a :: l).length : Nat) : Int) * C = l.length * C + C := by rw [List.length_cons, Int.natCast_add, Int.add_mul]; simp
    rw [e]
    show -(_) ≤ g * (φ a.f - φ a.t) + pot l G φ ∧ g * (φ a.f - φ a.t) + pot l G φ ≤ _
    rcases h a.f with h1 | h1 <;> rcases h a.t with h2 | h2 <;> rw [h1, h2] <;> simp <;> omega
theorem pot_take {φ : Int → Int} : ∀ {l : List Arc} {G : List Int} {i : Nat} {a : Arc} {x : Int}, l[i]? = some a → G[i]? = some x → pot (l.take (i + 1)) (G.take (i + 1)) φ = pot (l.take i) (G.take i) φ + x * (φ a.f - φ a.t)
  | [], _, _, _, _, h, _ => by simp at h
  | _ :: _, [], _, _, _, _, h => by simp at h
  | b :: l, g :: G, 0, a, x, h1, h2 => by
    simp at h1 h2
    subst h1; subst h2
    simp [pot]
  | b :: l, g :: G, i + 1, a, x, h1, h2 => by
    have := pot_take (φ := φ) (l := l) (G := G) (i := i) (by simpa using h1) (by simpa using h2)
    show g * _ + pot (l.take (i + 1)) (G.take (i + 1)) φ = g * _ + pot (l.take i) (G.take i) φ + _
    rw [this]
    omega
def indF (v : Int) : Int → Int := fun x => if x = v then 1 else 0
theorem indF_01 (v x : Int) : indF v x = 0 ∨ indF v x = 1 := by unfold indF; split <;> simp
theorem FlOk.most {l : List Arc} {fr to_ V : Int} {G : List Int} (h : FlOk l fr to_ G V) (hne : fr ≠ to_) : pot l G (indF fr) = V := by
  rw [h.law]
  unfold indF
  rw [if_pos rfl, if_neg (fun e => hne e.symm)]
  omega
theorem sum_le {l : List Arc} {φ : Int → Int} (hl : ∀ a ∈ l, AOk a) : 0 ≤ (l.map fun a => if φ a.f = 1 ∧ φ a.t = 0 then a.c else 0).sum ∧ (l.map fun a => if φ a.f = 1 ∧ φ a.t = 0 then a.c else 0).sum ≤ l.length * 1073741824 := by
  induction l with
  | nil => simp
  | cons a l ih =>
    have h1 := hl a (by simp)
    unfold AOk at h1
    have h2 := ih (fun b hb => hl b (List.mem_cons_of_mem _ hb))
    rw [List.map_cons, List.sum_cons, List.length_cons, Int.natCast_add, Int.add_mul]
    split <;> simp <;> omega
theorem FlOk.le {l : List Arc} {fr to_ V : Int} {G : List Int} (hl : ∀ a ∈ l, AOk a) (h : FlOk l fr to_ G V) (hne : fr ≠ to_) : V ≤ l.length * 1073741824 := by
  rw [← h.most hne]
  have := pot_le (l := l) (G := G) (indF_01 fr) h.rng
  have h2 := (sum_le (l := l) (φ := indF fr) hl).2
  omega
def inF (ns : List Int) : Int → Int := fun x => if ns.contains x then 1 else 0
theorem inF_01 (ns : List Int) (x : Int) : inF ns x = 0 ∨ inF ns x = 1 := by unfold inF; split <;> simp
def holdF (l : List Arc) (ns : List Int) : Int := (l.map fun a => if ns.contains a.f && !ns.contains a.t then a.c else 0).sum
theorem holdF_step {l : List Arc} {ns : List Int} {i : Nat} {a : Arc} (h : l[i]? = some a) : holdF (l.take (i + 1)) ns = holdF (l.take i) ns + if ns.contains a.f && !ns.contains a.t then a.c else 0 := by
  unfold holdF
  rw [take_step h, List.map_append, List.sum_append]
  simp
theorem holdF_rng {l : List Arc} {ns : List Int} (hl : ∀ a ∈ l, AOk a) : 0 ≤ holdF l ns ∧ holdF l ns ≤ l.length * 1073741824 := by
  induction l with
  | nil => simp [holdF]
  | cons a l ih =>
    have h1 := hl a (by simp)
    unfold AOk at h1
    have h2 := ih (fun b hb => hl b (List.mem_cons_of_mem _ hb))
    unfold holdF at h2 ⊢
    rw [List.map_cons, List.sum_cons, List.length_cons, Int.natCast_add, Int.add_mul]
    generalize (l.map fun a => if ns.contains a.f && !ns.contains a.t then a.c else 0).sum = z at *
    split <;> omega
theorem FlOk.cut {l : List Arc} {fr to_ V : Int} {G : List Int} (h : FlOk l fr to_ G V) {ns : List Int} (h1 : ns.contains fr = true) (h2 : ns.contains to_ = false) : V ≤ holdF l ns := by
  have h3 := h.law (inF ns)
  have e1 : inF ns fr = 1 := by unfold inF; rw [if_pos h1]
  have e2 : inF ns to_ = 0 := by unfold inF; rw [if_neg (by rw [h2]; simp)]
  rw [e1, e2] at h3
  have h4 := pot_le (l := l) (G := G) (inF_01 ns) h.rng
  have e3 : (l.map fun a => if inF ns a.f = 1 ∧ inF ns a.t = 0 then a.c else 0) = l.map fun a => if ns.contains a.f && !ns.contains a.t then a.c else 0 := List.map_congr_left (fun a _ => by
    unfold inF
    cases ns.contains a.f <;> cases ns.contains a.t <;> simp)
  rw [e3] at h4
  unfold holdF
  omega
def rchE (l : List Arc) (G : List Int) : Nat → FMap × List Int → Option FMap
  | 0, _ => none
  | k + 1, (m, []) => some m
  | k + 1, (m, h :: q) => rchE l G k (scF l G h (m, q) l.length)
theorem rchE_eq {l : List Arc} {G : List Int} {S : FMap × List Int} {r : FMap} (h : Rch l G S r) : ∀ (k : Nat) (x : FMap), rchE l G k S = some x → r = x := by
  induction h with
  | done =>
    intro k x hx
    cases k with
    | zero => simp [rchE] at hx
    | succ k => simpa [rchE] using hx
  | step _ ih =>
    intro k x hx
    cases k with
    | zero => simp [rchE] at hx
    | succ k => exact ih k x hx
def wayE (l : List Arc) (m : FMap) (fr : Int) : Nat → Int → Option (List (Nat × Bool))
  | 0, _ => none
  | k + 1, v => if v = fr then some [] else match mGet m v with
    | none => none
    | some s => match wayE l m fr k (enS l s.1.toNat s.2).1 with
      | none => none
      | some r => some ((s.1.toNat, s.2) :: r)
theorem wayE_eq {l : List Arc} {G : List Int} {m : FMap} {fr v : Int} {w : List (Nat × Bool)} (h : Way l G m fr v w) : ∀ (k : Nat) (x : List (Nat × Bool)), wayE l m fr k v = some x → w = x := by
  induction h with
  | nil =>
    intro k x hx
    cases k with
    | zero => simp [wayE] at hx
    | succ k =>
      unfold wayE at hx
      rw [if_pos rfl] at hx
      exact Option.some.inj hx
  | cons h1 h2 h3 h4 h5 _ ih =>
    rename_i v i bk r hw0
    intro k x hx
    cases k with
    | zero => simp [wayE] at hx
    | succ k =>
      unfold wayE at hx
      rw [if_neg h1, h2] at hx
      simp only [Int.toNat_natCast] at hx
      cases hr : wayE l m fr k (enS l i bk).1 with
      | none => rw [hr] at hx; simp at hx
      | some r2 =>
        rw [hr] at hx
        simp only [Option.some.injEq] at hx
        rw [← hx, ih k r2 hr]
def pushE (l : List Arc) (fr to_ : Int) (G : List Int) : Option (Option (List Int)) :=
  match rchE l G 100 (st0F fr) with
  | none => none
  | some m => match mGet m to_ with
    | none => some none
    | some _ => match wayE l m fr 100 to_ with
      | none => none
      | some w => some (some (ptF l G w))
theorem pushN_eq {l : List Arc} {fr to_ : Int} {G : List Int} (h : PushN l fr to_ G) {x : Option (List Int)} (hx : pushE l fr to_ G = some x) : x = none := by
  obtain ⟨m, h1, h2⟩ := h
  unfold pushE at hx
  cases hr : rchE l G 100 (st0F fr) with
  | none => rw [hr] at hx; simp at hx
  | some m2 =>
    rw [hr] at hx
    have := rchE_eq h1 _ _ hr
    subst this
    simp only [h2] at hx
    exact (Option.some.inj hx).symm
theorem pushS_eq {l : List Arc} {fr to_ : Int} {G G' : List Int} (h : PushS l fr to_ G G') {x : Option (List Int)} (hx : pushE l fr to_ G = some x) : x = some G' := by
  obtain ⟨m, w, h1, h2, h3, h4⟩ := h
  unfold pushE at hx
  cases hr : rchE l G 100 (st0F fr) with
  | none => rw [hr] at hx; simp at hx
  | some m2 =>
    rw [hr] at hx
    have := rchE_eq h1 _ _ hr
    subst this
    have hm : ∃ s, mGet m to_ = some s := by
      cases h2 with
      | nil => exact absurd rfl h3
      | cons _ h5 => exact ⟨_, h5⟩
    obtain ⟨s, hs⟩ := hm
    simp only [hs] at hx
    cases hw : wayE l m fr 100 to_ with
    | none => rw [hw] at hx; simp at hx
    | some w2 =>
      rw [hw] at hx
      have := wayE_eq h2 _ _ hw
      subst this
      rw [h4]
      exact (Option.some.inj hx).symm
def grE (l : List Arc) (fr to_ : Int) : Nat → List Int → Option (List Int)
  | 0, _ => none
  | k + 1, G => match pushE l fr to_ G with
    | none => none
    | some none => some G
    | some (some G') => grE l fr to_ k G'
theorem grE_eq {l : List Arc} {fr to_ : Int} {G R : List Int} (h : Gr l fr to_ G R) : ∀ (k : Nat) (x : List Int), grE l fr to_ k G = some x → R = x := by
  induction h with
  | done h1 =>
    rename_i G
    intro k x hx
    cases k with
    | zero => simp [grE] at hx
    | succ k =>
      unfold grE at hx
      cases hp : pushE l fr to_ G with
      | none => rw [hp] at hx; simp at hx
      | some y =>
        have := pushN_eq h1 hp
        subst this
        rw [hp] at hx
        exact Option.some.inj hx
  | step h1 _ ih =>
    rename_i G G' R hg0
    intro k x hx
    cases k with
    | zero => simp [grE] at hx
    | succ k =>
      unfold grE at hx
      cases hp : pushE l fr to_ G with
      | none => rw [hp] at hx; simp at hx
      | some y =>
        have := pushS_eq h1 hp
        subst this
        rw [hp] at hx
        exact ih k x hx
def ex49 : List Arc := [⟨1, 2, 2⟩, ⟨1, 3, 3⟩, ⟨2, 4, 9⟩, ⟨3, 4, 9⟩]
theorem ex49_gr : grE ex49 1 4 10 [0, 0, 0, 0] = some [2, 3, 2, 3] := by decide +kernel
theorem ex49_rch : rchE ex49 [2, 3, 2, 3] 10 (st0F 1) = some [(1, (-1, false))] := by decide +kernel
end A
end Go.Proofs.Ytmcannmjielalaa
set_option linter.unusedVariables false
set_option linter.unusedSimpArgs false
set_option linter.unusedSectionVars false
namespace Go.Proofs.Ytmcannmjielalaa
namespace A
open Go.Lib Go.RowKit
variable {P : Program} {N : Nat} {env : Env} {h : List HA} {K : Cont} {X : List (Nat × Cont)} {Rt : Cont}
/-- Its value: it begins k elements behind the block's begin. -/
abbrev qV (b o n c : Nat) : Value := .slice (some ⟨b, o, none⟩) n c
/-- An append to a queue: there is room, or it moves. -/
theorem run_appendQ {w : World} {t tx ty e : TypeId} {i : TypeInfo} {z : Value} {sz b k n c : Nat} {xs : List Value} {x : Value} {m : Nat} {news : List Value} (ht : P.underlying t = some (.slice e)) (hi : P.info? e = some i) (hz : i.zero = some z) (hsz : i.size = sz) (hzs : z.cells.size = sz) (h0 : 0 < sz)
    (ho : w.ownsRow 0 e sz (slV (some b) (k + n) (k + c)) (k + n) xs) (hs : Src P sz tx x m news w) (h63 : n + m ≤ 9223372036854775807) (hby : (n + m) * i.bytes ≤ 140737488355328) :
    ∃ b' k' c' w', (Builtin.append_ #[t, tx] ty #[qV b (k * sz) n c, x]).run P w = .ok (qV b' (k' * sz) (n + m) c') w' ∧ w'.os = w.os ∧ w'.output = w.output ∧ w'.tape = w.tape ∧ w.heap.size ≤ w'.heap.size ∧ w.drawn ≤ w'.drawn ∧
      ((b' = b ∧ k' = k ∧ c' = c ∧ w'.ownsRow 0 e sz (slV (some b) (k + (n + m)) (k + c)) (k + (n + m)) (xs ++ news) ∧ ∀ d, d < w.heap.size → d ≠ b → w'.heap[d]? = w.heap[d]?) ∨
       (b' = w.heap.size ∧ k' = 0 ∧ w'.heap.size = w.heap.size + 1 ∧ w'.ownsRow 0 e sz (slV (some b') (n + m) c') (n + m) (xs.drop (k * sz) ++ news) ∧ ∀ d, d < w.heap.size → w'.heap[d]? = w.heap[d]?)) := by
  subst hsz
  rcases ho.2 with ⟨hv, hn⟩ | ⟨b', cap, cur, hv, _, hg, hnc, hcm, hcs, htake⟩
  · simp [slV] at hv
  obtain ⟨hb, hc⟩ : b = b' ∧ k + c = cap := by simpa [slV] using hv
  subst hb; subst hc
  have hlen : xs.length = (k + n) * i.size := ho.1
  by_cases hroom : n + m ≤ c
  · have hfit : (k + n) * i.size + news.length ≤ cur.size := by
      rw [hs.newsLen, hcs, ← Nat.add_mul]; exact Nat.mul_le_mul_right _ (by omega)
    have hst := run_storeCells_at P b ((k + n) * i.size) e news 0 cur w hg (by simpa using hfit) hs.one
    simp only [Nat.add_zero] at hst
    refine ⟨b, k, c, w.setRow b (cur.toList.take ((k + n) * i.size) ++ news ++ cur.toList.drop ((k + n) * i.size + news.length)).toArray, ?_, rfl, rfl, rfl, by simp, Nat.le_refl _, .inl ⟨rfl, rfl, rfl, ⟨?_, .inr ⟨b, k + c, _, rfl, Nat.zero_le _, setRow_heap w b cur _ e _ hg, by omega, hcm, ?_, ?_⟩⟩, fun d _ hd => setRow_other w b d _ hd⟩⟩
    · have ha : (⟨b, k * i.size, none⟩ : Addr).add (n * i.size) = ⟨b, (k + n) * i.size, none⟩ := by rw [add_none, Nat.add_mul]
      rcases hs.kind with ⟨e', hk⟩ | hk <;> simp [qV, Builtin.append_, run_underlying ht, run_underlying hk, sizeOf, typeInfo, hi, hs.len, hroom, hs.cells, ha, hst]
    · rw [List.length_append, hlen, hs.newsLen, ← Nat.add_mul, Nat.add_assoc]
    · simp only [List.size_toArray, List.length_append, List.length_take, List.length_drop, Array.length_toList]
      omega
    · rw [htake, List.take_append_of_le_length (by rw [List.length_append, hlen, hs.newsLen, ← Nat.add_mul, Nat.add_assoc]; exact Nat.le_refl _), List.take_of_length_le (by rw [List.length_append, hlen, hs.newsLen, ← Nat.add_mul, Nat.add_assoc]; exact Nat.le_refl _)]
  · have hdl : (xs.drop (k * i.size)).length = n * i.size := by rw [List.length_drop, hlen, Nat.add_mul]; omega
    have hold : (Builtin.firstCells i.size n (qV b (k * i.size) n c)).run P w.drew = .ok (xs.drop (k * i.size)).toArray w.drew := by
      have := ho.cells (g := b) rfl
      simp only [Builtin.firstCells]
      rw [← hdl]
      exact run_loadCells_list w.drew ⟨b, k * i.size, none⟩ _ (fun j u hj => by
        rw [List.getElem?_drop] at hj
        have h2 := this (k * i.size + j) u hj
        rw [add_none] at h2 ⊢
        rw [Nat.zero_add] at h2
        exact h2)
    have hnext : Builtin.nextslicecap (n + m) c * i.bytes ≤ 281474976710656 := by
      have h1 : Builtin.nextslicecap (n + m) c ≤ 2 * (n + m) := nextslicecap_le' (by omega)
      have := Nat.mul_le_mul_right i.bytes h1
      rw [Nat.mul_assoc] at this
      omega
    have hr := run_append_grow_src (P := P) w t tx ty e i z ht hi hz (some ⟨b, k * i.size, none⟩) n c _ hold x m news hs (by omega) (by omega) hnext
    have hge := grownCap_ge w (n + m) c e
    have hml : n + m ≤ maxLen := by simp only [maxLen]; omega
    have hcm2 : grownCap w (n + m) c e ≤ maxLen := grownCap_le_maxLen w (n + m) c e hml
    have hlen2 : (xs.drop (k * i.size) ++ news).length = (n + m) * i.size := by rw [List.length_append, hdl, hs.newsLen, Nat.add_mul]
    refine ⟨w.heap.size, 0, grownCap w (n + m) c e, w.drew.alloc (Obj.cells ((List.drop (k * i.size) xs ++ news).toArray ++ Builtin.zeroCells z.cells (grownCap w (n + m) c e - (n + m))) e), by rw [Nat.zero_mul]; exact hr, rfl, rfl, rfl, by simp, Nat.le_succ _, .inr ⟨rfl, rfl, by simp, ⟨hlen2, .inr ⟨w.heap.size, _, _, rfl, Nat.zero_le _, heap_new w.drew _, hge, hcm2, ?_, ?_⟩⟩, fun d hd => heap_old w.drew _ d hd⟩⟩
    · simp only [Array.size_append, List.size_toArray, size_zeroCells', hzs, hlen2, ← Nat.add_mul]
      congr 1
      omega
    · simp only [Array.toList_append]
      rw [← hlen2]
      exact List.take_left
theorem tk_tail {x : HA} : ∀ t : List HA, Tk (x :: t) t [x]
  | [] => .nil
  | y :: t => .cons (.tl .hd) (tk_tail t)
theorem oAppQ {α : Type} {fC : α → List AV} {d0 r : List α} (xs : List α) {o : Oper} {t t' e : TypeId} {x y : Operand} {sz by_ d b c : Nat} {h' : List HA} (ho : o.op = .call ⟨.builtin .append, #[x, y], #[t, t']⟩) (hx : ev env x = some (.v (qV b (d0.length * sz) r.length c))) (hs : Spl h (.sl (some b) (d0.length + c) e sz ((d0 ++ r).map fC)) h')
    (hy : SrcIs env h y sz (xs.map fC)) (ht : elemOf P t = some (e, sz, by_)) (ht' : isSl P t' = true) (k : ∀ b' d' c', (r ++ xs).length ≤ c' → K ((d, .v (qV b' (d'.length * sz) (r ++ xs).length c')) :: env) (.sl (some b') (d'.length + c') e sz ((d' ++ (r ++ xs)).map fC) :: h'))
    (hd : o.dst = some d := by rfl) (hN : d < N := by decide) (hz : ∀ a, (fC a).length = sz := by exact (fun _ => rfl)) (hb : r.length + xs.length ≤ 100000000 := by first | omega | (simp; omega) | (simp at *; omega)) (hb2 : by_ ≤ 1000000 := by decide) : AOp P N o env h K := by
  intro B F a w Q s ex hdef
  obtain ⟨hu, i, z, hi, hzz, hisz, hzs, h0, hby⟩ := elemOf_spec ht
  obtain ⟨e', hu'⟩ := isSl_spec ht'
  have hsr0 := s.r.rep _ (spl_mem hs)
  obtain ⟨xs0, hown, hxz, hx1, hxr⟩ := hsr0
  have hxv := s.ev hx
  generalize hv : a.eval x = v at hxv
  cases hxv
  have hsrc : ∃ news : List Value, Src P sz t' (a.eval y) (xs.map fC).length news w ∧ ∀ (i j : Nat) y av v, (xs.map fC)[i]? = some y → y[j]? = some av → news[i * sz + j]? = some v → Rep F w av v := by
    rcases hy with hy | ⟨g2, c2, e2, hy, hm⟩
    · exact src_sl (h := h) hu' (s.ev hy)
    · have hyv := s.ev hy
      generalize hv2 : a.eval y = v2 at hyv
      cases hyv
      exact src_own (h := h) hu' (s.r.rep _ hm)
  obtain ⟨news, hsr, hrn⟩ := hsrc
  have hfl : ((d0 ++ r).map fC).length = d0.length + r.length := by rw [List.length_map, List.length_append]
  rw [hfl] at hown
  rw [List.length_map] at hsr
  have hbb : (r.length + xs.length) * by_ ≤ 140737488355328 := by
    have := Nat.mul_le_mul hb hb2
    omega
  obtain ⟨b', k', c', w', hrun, hos, hout, htp, hsz, hdr, hcase⟩ := run_appendQ (P := P) (ty := o.type) hu hi hzz hisz hzs h0 hown hsr (by omega) (by rw [hby]; exact hbb)
  have hrun2 : (execOp a.eval o).run P w = .ok (.value (qV b' (k' * sz) (r.length + xs.length) c')) w' := by
    simp only [execOp, ho, resolve, Sem.run_bind, Sem.run_pure, Result.andThen_ok, invoke, builtin]
    simp only [List.map_toArray, List.map_cons, List.map_nil, hv, hrun, Result.andThen_ok]
  unfold Oper.wp
  rw [hrun2, Oper.upon_value, hd]
  have hrl : (r ++ xs).length = r.length + xs.length := List.length_append
  have hxz2 : ∀ y ∈ xs.map fC, y.length = sz := fun y hy => by obtain ⟨a, _, rfl⟩ := List.mem_map.1 hy; exact hz a
  rcases hcase with ⟨rfl, rfl, rfl, ho', hk⟩ | ⟨rfl, rfl, hsz1, ho', hk⟩
  · have e1 : d0.length + (r.length + xs.length) = ((d0 ++ r).map fC).length + (xs.map fC).length := by rw [hfl, List.length_map, Nat.add_assoc]
    rw [e1] at ho'
    obtain ⟨hR, hE⟩ := s.r.appended hs ho' (by rw [hfl]; exact hown.1) (fun y hy => (List.mem_append.1 hy).elim (hxz y) (hxz2 y)) (fun x hx => (List.mem_append.1 hx).elim (hx1 x) (hsr.one x)) hxr hrn hos hout htp hsz (fun b hb => .inl hb) (fun b hb hn => hk b hb (fun e => hn (by rw [e]))) hdr
    have hcap : (r ++ xs).length ≤ c' := by
      rcases ho'.2 with ⟨hv3, _⟩ | ⟨g3, cap3, cur3, hv3, _, _, hn3, _⟩
      · simp [slV] at hv3
      · have h3 : d0.length + c' = cap3 := by
          simp [slV] at hv3
          omega
        rw [hrl]
        rw [hfl] at hn3
        simp only [List.length_map] at hn3
        omega
    have e2 : (d0 ++ (r ++ xs)).map fC = (d0 ++ r).map fC ++ xs.map fC := by rw [← List.append_assoc, List.map_append (l₁ := d0 ++ r)]
    rw [← e2] at hE hR
    refine ⟨hdef, F, _, _, k b' d0 c' hcap, ?_, ex.trans hE⟩
    rw [hrl]
    exact s.put hE hR hN (.v _)
  · -- it moves
    have hE0 : Ext F h w F h' w := (Ext.permR hs.perm (Ext.refl F h w)).subR (tk_tail h')
    have hR0 : R F h' w := R.sub (tk_tail h') (s.r.perm hs.perm)
    have hR1 : R F (.sl none 0 e sz [] :: h') w := ⟨fun x hx => by
      rcases List.mem_cons.1 hx with rfl | hx
      · exact ⟨[], World.ownsRow_nil w 0 e sz, fun y hy => by simp at hy, fun y hy => by simp at hy, fun i j y av x hi => by simp at hi⟩
      · exact hR0.rep x hx, by simpa [HA.own] using hR0.nd, by simpa [HA.own] using hR0.lt, by simpa [HA.own] using hR0.sep⟩
    have hE1 : Ext F h' w F (.sl none 0 e sz [] :: h') w := ⟨rfl, rfl, rfl, Nat.le_refl _, fun _ _ _ => rfl, fun b hb => .inl (by simpa [HA.own] using hb), fun _ h => h, fun _ h => .inl h, Nat.le_refl _⟩
    have hxl : xs0.length = (d0.length + r.length) * sz := hown.1
    have hcl : (xs0.drop (d0.length * sz)).length = r.length * sz := by rw [List.length_drop, hxl, Nat.add_mul]; omega
    have e1 : r.length + xs.length = ([] : List (List AV)).length + ((r ++ xs).map fC).length := by simp
    have ho2 := ho'
    rw [e1] at ho2
    have hrep2 : ∀ (i j : Nat) y av v, ((r ++ xs).map fC)[i]? = some y → y[j]? = some av → (xs0.drop (d0.length * sz) ++ news)[i * sz + j]? = some v → Rep F w av v := fun i j y av v hi hj hv => by
      have hyl : y.length = sz := by
        obtain ⟨a, _, rfl⟩ := List.mem_map.1 (List.mem_of_getElem? hi)
        exact hz a
      have hjl : j < sz := by rw [← hyl]; exact (List.getElem?_eq_some_iff.1 hj).1
      rw [List.map_append] at hi
      by_cases hlt : i < r.length
      · rw [List.getElem?_append_left (by rw [List.length_map]; exact hlt)] at hi
        rw [List.getElem?_append_left (by rw [hcl]; exact idx_lt hlt hjl), List.getElem?_drop] at hv
        refine hxr (d0.length + i) j y av v ?_ hj ?_
        · rw [List.map_append, List.getElem?_append_right (by rw [List.length_map]; omega), List.length_map, show d0.length + i - d0.length = i by omega]
          exact hi
        · rw [Nat.add_mul, Nat.add_assoc]; exact hv
      · have hge : r.length ≤ i := by omega
        have hle : r.length * sz ≤ i * sz := Nat.mul_le_mul_right _ hge
        rw [List.getElem?_append_right (by rw [List.length_map]; omega), List.length_map] at hi
        rw [List.getElem?_append_right (by rw [hcl]; omega), hcl] at hv
        refine hrn (i - r.length) j y av v hi hj ?_
        rw [Nat.sub_mul, show i * sz - r.length * sz + j = i * sz + j - r.length * sz by omega]
        exact hv
    obtain ⟨hR, hE⟩ := hR1.appended (w' := w') (g := none) (g' := some w.heap.size) (c' := c') (xs := []) (news := xs0.drop (d0.length * sz) ++ news) (ns := (r ++ xs).map fC) .hd ho2 (by simp) (fun y hy => (List.mem_append.1 hy).elim (fun h => by simp at h) (fun hy => by obtain ⟨a, _, rfl⟩ := List.mem_map.1 hy; exact hz a)) (fun x hx => by
      rw [List.nil_append] at hx
      exact (List.mem_append.1 hx).elim (fun h => hx1 x (List.mem_of_mem_drop h)) (hsr.one x)) (fun i j y av x hi => by simp at hi) hrep2 hos hout htp hsz (fun b hb => .inr ⟨(Option.some.inj hb).symm, hsz1⟩) (fun b hb _ => hk b hb) hdr
    have hcap : (r ++ xs).length ≤ c' := by
      rcases ho'.2 with ⟨hv3, _⟩ | ⟨g3, cap3, cur3, hv3, _, _, hn3, _⟩
      · simp [slV] at hv3
      · have h3 : c' = cap3 := by
          simp [slV] at hv3
          omega
        rw [hrl]
        omega
    have hE2 := (hE0.trans hE1).trans hE
    have hk2 := k w.heap.size [] c' hcap
    have e3 : ([] : List α).length + c' = c' := Nat.zero_add _
    rw [e3] at hk2
    refine ⟨hdef, F, _, _, hk2, ?_, ex.trans hE2⟩
    have e4 : ([] : List α).length = 0 := rfl
    rw [e4, hrl]
    exact s.put hE2 hR hN (.v _)
/-- The head of a queue is cut off. -/
theorem pSlQ {o : Oper} {t : TypeId} {x : Operand} {lo : Option Operand} {sz b p n c l : Nat} (ho : o.op = .slice t x lo none none) (hx : ev env x = some (.v (qV b p n c))) (ht : elemSize P t = some sz) (hl : BoundIs env lo 0 l)
    (h1 : l ≤ n) (h2 : n ≤ c) : APure P N o env (.v (qV b (if c = l then p else p + l * sz) (n - l) (c - l))) := by
  intro F h a w st
  have hr := st.ev hx
  generalize hv : a.eval x = v at hr
  cases hr
  obtain ⟨el, g', hu, hs⟩ := elemSize_spec ht
  refine ⟨_, .v _, fun w' => ?_⟩
  simp only [execOp, ho, hv, Instr.sliceAt, Instr.slice, Sem.run_bind, Sem.run_pure, Result.andThen_ok, run_underlying' hu, Option.map_none, qV]
  have := run_bounds (P := P) st hl (len := n) (cap := c) (bdN rfl) h1 h2 true w'
  rw [Option.map_none] at this
  simp only [this, Result.andThen_ok, run_sizeOf hs, Sem.run_bind, Sem.run_pure]
  by_cases hc : c = l <;> simp [add_none, hc]
/-- The head of a queue. -/
theorem rQ0 {o : Oper} {t : TypeId} {x : Operand} {n b c e : Nat} {α : Type} {fC : α → List AV} {d0 r : List α} {a : α} {av : AV} {h' : List HA} (ht : tyOf P t = some (n, false)) (ho : o.op = .load t x := by rfl) (hx : ev env x = some (.v (.pointer (some ⟨b, d0.length * 1 + (0 : Int).toNat * 1, none⟩))) := by rfl) (hs : Spl h (.sl (some b) c e 1 ((d0 ++ a :: r).map fC)) h' := by repeat constructor) (hj : (fC a)[0]? = some av := by rfl) : ARead P N o env h av :=
  rLdO1 (i := d0.length) (j := 0) ho hx hs ht (by simp) (by rw [List.getElem?_map, List.getElem?_append_right (Nat.le_refl _), Nat.sub_self]; rfl) hj
end A
end Go.Proofs.Ytmcannmjielalaa
set_option linter.unusedVariables false
set_option linter.unusedSimpArgs false
namespace Go.Proofs.Ytmcannmjielalaa
namespace A
theorem es_294 : elemSize Try.prog 294 = some 1 := by kernel_rfl
theorem fd_155_0 : fieldOf Try.prog 155 0 = some (0, 1, false) := by kernel_rfl
theorem fd_155_1 : fieldOf Try.prog 155 1 = some (1, 1, false) := by kernel_rfl
theorem fd_258_0 : fieldOf Try.prog 258 0 = some (0, 1, false) := by kernel_rfl
theorem fd_258_1 : fieldOf Try.prog 258 1 = some (1, 1, false) := by kernel_rfl
theorem mo_256 : mapOf Try.prog 256 = some (3, 258) := by kernel_rfl
theorem sl_294 : isSl Try.prog 294 = true := by kernel_rfl
theorem st_258 : structPlaces Try.prog 258 = some [(0, 1), (1, 1)] := by kernel_rfl
theorem ty_22 : tyOf Try.prog 22 = some (1, false) := by kernel_rfl
theorem ty_258 : tyOf Try.prog 258 = some (2, true) := by kernel_rfl
theorem us_294 : Try.prog.underlying 294 = some (.slice 4) := by kernel_rfl
theorem ze_258 : zeroOf Try.prog 258 = some (.agg #[.int .i64 0, .bool false]) := by kernel_rfl
theorem cast_st : Cast (.v (.agg #[.int .i64 0, .bool false])) (stpA (0, false)) := cast_agg rfl rfl (fun i y c h1 h2 => by
  match i with
  | 0 => simp at h1 h2; subst h1; subst h2; exact .refl
  | 1 => simp at h1 h2; subst h1; subst h2; exact .refl
  | i + 2 => simp at h1)
/- flow.flow).ends -/
def fl_ends_r1_T : Bool × List (List Nat × List Nat) := (true, [([], []), ([0], [0]), ([1], [1]), ([2], [2]), ([], []), ([4], [4]), ([3, 5], [3, 5]), ([6], [6]), ([], []), ([8, 7, 0, 1, 2, 3, 4, 5, 6, 7, 8], [7, 8])])
def fl_ends_r1_B : List Nat := [0, 1, 3, 7, 0, 16, 63, 127, 0, 511]
theorem fl_ends_r1_t : Go.Proofs.YtmcannmjielalaaW.PrintLast.rtab .any (Go.Proofs.YtmcannmjielalaaW.PrintLast.opsOf Try.f264 1) = fl_ends_r1_T := by kernel_rfl
theorem fl_ends_r1_b : Go.Proofs.YtmcannmjielalaaW.PrintLast.waitsOk fl_ends_r1_T.2 fl_ends_r1_B = true := by kernel_rfl
def fl_ends_r3_T : Bool × List (List Nat × List Nat) := (true, [([], []), ([0], [0]), ([], []), ([2], [2]), ([1, 0, 1], [1]), ([3, 4, 0, 1, 2, 3, 4], [3])])
def fl_ends_r3_B : List Nat := [0, 1, 0, 4, 3, 31]
theorem fl_ends_r3_t : Go.Proofs.YtmcannmjielalaaW.PrintLast.rtab .any (Go.Proofs.YtmcannmjielalaaW.PrintLast.opsOf Try.f264 3) = fl_ends_r3_T := by kernel_rfl
theorem fl_ends_r3_b : Go.Proofs.YtmcannmjielalaaW.PrintLast.waitsOk fl_ends_r3_T.2 fl_ends_r3_B = true := by kernel_rfl
def fl_ends_r4_T : Bool × List (List Nat × List Nat) := (true, [([], []), ([0], [0]), ([], []), ([2], [2]), ([1, 0, 1], [1]), ([3, 4, 0, 1, 2, 3, 4], [3])])
def fl_ends_r4_B : List Nat := [0, 1, 0, 4, 3, 31]
theorem fl_ends_r4_t : Go.Proofs.YtmcannmjielalaaW.PrintLast.rtab .any (Go.Proofs.YtmcannmjielalaaW.PrintLast.opsOf Try.f264 4) = fl_ends_r4_T := by kernel_rfl
theorem fl_ends_r4_b : Go.Proofs.YtmcannmjielalaaW.PrintLast.waitsOk fl_ends_r4_T.2 fl_ends_r4_B = true := by kernel_rfl
set_option maxRecDepth 100000 in
set_option maxHeartbeats 400000 in
theorem fl_ends {l : List Arc} {G : List Int} {i : Nat} {bk : Bool} (fb gb : Nat) (hi : i < l.length) : Triple Try.prog 264 [(.v (.pointer (some ⟨fb, 0, none⟩))), .agg [.int i, .v (.bool bk)]] [.box fb [.sl 3 (l.map arcC), .v (slV (some gb) l.length l.length)], .sl (some gb) l.length 3 1 (G.map intA)] (Is (.tup [.int (enS l i bk).1, .int (enS l i bk).2]) [.box fb [.sl 3 (l.map arcC), .v (slV (some gb) l.length l.length)], .sl (some gb) l.length 3 1 (G.map intA)]) := by
  have hae := arF_get hi
  obtain ⟨a, ha⟩ : ∃ a, l[i]? = some a := ⟨_, hae⟩
  have hea := arF_at ha
  refine triple_of Try.func264 rfl (by kernel_rfl) rfl (by simp) ?_
  refine aSeq ?_
  refine aReg ?_
  refine sq ?_
  refine qBox rfl rfl (by decide) rfl rfl (fun b3 => ?_)
  refine sp pMa ?_
  refine sp pMa ?_
  refine oNil ?_
  refine aSeq ?_
  refine aDrawT fl_ends_r1_t fl_ends_r1_b [9] 10 #[false, false, false, false, false, false, false, false, false, false] (by kernel_rfl) rfl rfl (fun HT => ?_)
  refine dp HT 0 rfl pM ?_
  refine dp HT 1 rfl pNv ?_
  refine dp HT 2 rfl (pFb fd_155_0) ?_
  refine dr HT 3 rfl (rB1 ty_22) ?_
  refine dp HT 4 rfl (pFb fd_258_0) ?_
  refine dr HT 5 rfl (rB1 ty_3) ?_
  first | refine dp HT 6 rfl (pIx es_22) ?_ | (refine obtDN 10 12 rfl rfl (by omega) (fun x13 hx13 => ?_); refine dp HT 6 rfl (pIs es_22 hx13) ?_) | (refine obtD 10 12 rfl rfl (by omega) (by omega) (fun x13 hx13 => ?_); refine dp HT 6 rfl (pIs es_22 hx13) ?_) | refine dp HT 6 rfl (pIo es_22) ?_
  refine dr HT 7 rfl (by first | exact rSW ty_36 rfl | exact rSA ty_36 | exact rBWa ty_36 | exact rBW ty_36 | exact rBA ty_36 | exact rArA ty_36 (fun _ => rfl)) ?_
  refine dGo ?_
  refine e1 HT 8 rfl ?_
  refine qAlloc rfl rfl (by decide) ze_36 rfl (fun b6 => ?_)
  refine eLast ?_
  refine f1 HT 9 rfl ?_
  refine oStW rfl rfl rfl rfl (by repeat constructor) ty_36 ?_
  refine fE HT ?_
  clear HT
  refine aSeq ?_
  refine aSeq ?_
  refine aReg ?_
  refine sp (pFb fd_258_1) ?_
  refine sr (rB1 ty_4) ?_
  refine oNil ?_
  refine aCond rfl (fun c16 => ?_) (fun c16 => ?_)
  · skip
    refine aSeq ?_
    refine aDrawT fl_ends_r3_t fl_ends_r3_b [] 6 #[false, false, false, false, false, false] (by kernel_rfl) rfl rfl (fun HT => ?_)
    refine dp HT 0 rfl (pFb fd_36_1) ?_
    refine dr HT 1 rfl (rB1 ty_3) ?_
    refine dp HT 2 rfl (pFb fd_36_0) ?_
    refine dr HT 3 rfl (rB1 ty_3) ?_
    refine dp HT 4 rfl pMa ?_
    refine dp HT 5 rfl pMa ?_
    refine dE HT ?_
    clear HT
    refine aRet ?_
    refine finIs rfl ?_
    unfold enS
    rw [hea]
    simp_all [retOf]
  · skip
    refine aSkip ?_
    refine aSeq ?_
    refine aDrawT fl_ends_r4_t fl_ends_r4_b [] 6 #[false, false, false, false, false, false] (by kernel_rfl) rfl rfl (fun HT => ?_)
    refine dp HT 0 rfl (pFb fd_36_0) ?_
    refine dr HT 1 rfl (rB1 ty_3) ?_
    refine dp HT 2 rfl (pFb fd_36_1) ?_
    refine dr HT 3 rfl (rB1 ty_3) ?_
    refine dp HT 4 rfl pMa ?_
    refine dp HT 5 rfl pMa ?_
    refine dE HT ?_
    clear HT
    refine aRet ?_
    refine finIs rfl ?_
    unfold enS
    rw [hea]
    simp_all [retOf]
/- flow.flow).left -/
def fl_left_r2_T : Bool × List (List Nat × List Nat) := (true, [([], []), ([0], [0]), ([1], [1]), ([2], [2]), ([], []), ([4], [4]), ([3, 5], [3, 5]), ([6], [6]), ([7, 0, 1, 2, 3, 4, 5, 6, 7], [7])])
def fl_left_r2_B : List Nat := [0, 1, 3, 7, 0, 16, 63, 127, 255]
theorem fl_left_r2_t : Go.Proofs.YtmcannmjielalaaW.PrintLast.rtab .any (Go.Proofs.YtmcannmjielalaaW.PrintLast.opsOf Try.f265 2) = fl_left_r2_T := by kernel_rfl
theorem fl_left_r2_b : Go.Proofs.YtmcannmjielalaaW.PrintLast.waitsOk fl_left_r2_T.2 fl_left_r2_B = true := by kernel_rfl
def fl_left_r3_T : Bool × List (List Nat × List Nat) := (true, [([], []), ([0], [0]), ([1], [1]), ([2], [2]), ([], []), ([4], [4]), ([3, 5], [3, 5]), ([6], [6]), ([7], [7]), ([], []), ([9], [9]), ([10], [10]), ([11], [11]), ([], []), ([13], [13]), ([12, 14], [12, 14]), ([15], [15]), ([8, 16], [8, 16]), ([17, 0, 1, 2, 3, 4, 5, 6, 7, 8, 9, 10, 11, 12, 13, 14, 15, 16, 17], [17])])
def fl_left_r3_B : List Nat := [0, 1, 3, 7, 0, 16, 63, 127, 255, 0, 512, 1536, 3584, 0, 8192, 32256, 65024, 131071, 262143]
theorem fl_left_r3_t : Go.Proofs.YtmcannmjielalaaW.PrintLast.rtab .any (Go.Proofs.YtmcannmjielalaaW.PrintLast.opsOf Try.f265 3) = fl_left_r3_T := by kernel_rfl
theorem fl_left_r3_b : Go.Proofs.YtmcannmjielalaaW.PrintLast.waitsOk fl_left_r3_T.2 fl_left_r3_B = true := by kernel_rfl
set_option maxRecDepth 100000 in
set_option maxHeartbeats 400000 in
theorem fl_left {l : List Arc} {G : List Int} {i : Nat} {bk : Bool} (fb gb : Nat) (hi : i < l.length) (hg : G.length = l.length) (hr : 0 ≤ gvF G i ∧ gvF G i ≤ (arF l i).c) (hc : (arF l i).c ≤ 1073741824) : Triple Try.prog 265 [(.v (.pointer (some ⟨fb, 0, none⟩))), .agg [.int i, .v (.bool bk)]] [.box fb [.sl 3 (l.map arcC), .v (slV (some gb) l.length l.length)], .sl (some gb) l.length 3 1 (G.map intA)] (Is (.int (lfS l G i bk)) [.box fb [.sl 3 (l.map arcC), .v (slV (some gb) l.length l.length)], .sl (some gb) l.length 3 1 (G.map intA)]) := by
  have hae := arF_get hi
  obtain ⟨a, ha⟩ : ∃ a, l[i]? = some a := ⟨_, hae⟩
  have hea := arF_at ha
  have hgx := gvF_get (G := G) (i := i) (by omega)
  rw [hea] at hr hc
  refine triple_of Try.func265 rfl (by kernel_rfl) rfl (by simp) ?_
  refine aSeq ?_
  refine aReg ?_
  refine sq ?_
  refine qBox rfl rfl (by decide) rfl rfl (fun b3 => ?_)
  refine sp pMa ?_
  refine oNil ?_
  refine aSeq ?_
  refine aSeq ?_
  refine aReg ?_
  refine sp (pFb fd_258_1) ?_
  refine sr (rB1 ty_4) ?_
  refine oNil ?_
  refine aCond rfl (fun c6 => ?_) (fun c6 => ?_)
  · skip
    refine aSeq ?_
    refine aDrawT fl_left_r2_t fl_left_r2_b [] 9 #[false, false, false, false, false, false, false, false, false] (by kernel_rfl) rfl rfl (fun HT => ?_)
    refine dp HT 0 rfl pM ?_
    refine dp HT 1 rfl pNv ?_
    refine dp HT 2 rfl (pFb fd_155_1) ?_
    refine dr HT 3 rfl (rB1 ty_25) ?_
    refine dp HT 4 rfl (pFb fd_258_0) ?_
    refine dr HT 5 rfl (rB1 ty_3) ?_
    first | refine dp HT 6 rfl (pIx es_25) ?_ | (refine obtDN 10 12 rfl rfl (by omega) (fun x13 hx13 => ?_); refine dp HT 6 rfl (pIs es_25 hx13) ?_) | (refine obtD 10 12 rfl rfl (by omega) (by omega) (fun x13 hx13 => ?_); refine dp HT 6 rfl (pIs es_25 hx13) ?_) | refine dp HT 6 rfl (pIo es_25) ?_
    refine dr HT 7 rfl (rO1 ty_3 hgx) ?_
    refine dp HT 8 rfl pMa ?_
    refine dE HT ?_
    clear HT
    refine aRet ?_
    refine finIs rfl ?_
    unfold lfS
    rw [hea]
    simp_all [retOf]
  · skip
    refine aSkip ?_
    refine aSeq ?_
    refine aDrawT fl_left_r3_t fl_left_r3_b [] 19 #[false, false, false, false, false, false, false, false, false, false, false, false, false, false, false, false, false, false, false] (by kernel_rfl) rfl rfl (fun HT => ?_)
    refine dp HT 0 rfl pM ?_
    refine dp HT 1 rfl pNv ?_
    refine dp HT 2 rfl (pFb fd_155_0) ?_
    refine dr HT 3 rfl (rB1 ty_22) ?_
    refine dp HT 4 rfl (pFb fd_258_0) ?_
    refine dr HT 5 rfl (rB1 ty_3) ?_
    first | refine dp HT 6 rfl (pIx es_22) ?_ | (refine obtDN 18 20 rfl rfl (by omega) (fun x21 hx21 => ?_); refine dp HT 6 rfl (pIs es_22 hx21) ?_) | (refine obtD 18 20 rfl rfl (by omega) (by omega) (fun x21 hx21 => ?_); refine dp HT 6 rfl (pIs es_22 hx21) ?_) | refine dp HT 6 rfl (pIo es_22) ?_
    refine dp HT 7 rfl (by first | exact pFb fd_36_2 | exact pFs fd_36_2) ?_
    refine dr HT 8 rfl (by first | exact rS1 ty_3 | exact rB1 ty_3 | exact rAr ty_3 | exact rArL ty_3 | exact rArR2 ty_3) ?_
    refine dp HT 9 rfl pM ?_
    refine dp HT 10 rfl pNv ?_
    refine dp HT 11 rfl (pFb fd_155_1) ?_
    refine dr HT 12 rfl (rB1 ty_25) ?_
    refine dp HT 13 rfl (pFb fd_258_0) ?_
    refine dr HT 14 rfl (rB1 ty_3) ?_
    first | refine dp HT 15 rfl (pIx es_25) ?_ | (refine obtDN 27 29 rfl rfl (by omega) (fun x30 hx30 => ?_); refine dp HT 15 rfl (pIs es_25 hx30) ?_) | (refine obtD 27 29 rfl rfl (by omega) (by omega) (fun x30 hx30 => ?_); refine dp HT 15 rfl (pIs es_25 hx30) ?_) | refine dp HT 15 rfl (pIo es_25) ?_
    refine dr HT 16 rfl (rO1 ty_3 hgx) ?_
    refine dp HT 17 rfl pSu ?_
    refine dp HT 18 rfl pMa ?_
    refine dE HT ?_
    clear HT
    refine aRet ?_
    refine finIs rfl ?_
    unfold lfS
    rw [hea]
    simp_all [retOf]
theorem trK_step {l : List Arc} {G : List Int} {h : Int} {S : FMap × List Int} {i j : Nat} {bk : Bool} (hj : ([false, true] : List Bool)[j]? = some bk) : trK l G h S i (j + 1) = trF l G h (trK l G h S i j) i bk := by
  match j with
  | 0 => simp at hj; subst hj; rfl
  | 1 => simp at hj; subst hj; rfl
  | j + 2 => simp at hj
theorem trF_yes {l : List Arc} {G : List Int} {h : Int} {S : FMap × List Int} {i : Nat} {bk : Bool} (h1 : (enS l i bk).1 = h) (h2 : (mGet S.1 (enS l i bk).2).isSome = false) (h3 : 0 < lfS l G i bk) : (mPut S.1 (enS l i bk).2 ((i : Int), bk), S.2 ++ [(enS l i bk).2]) = trF l G h S i bk := by
  unfold trF
  rw [if_pos ⟨h1, by cases hm : mGet S.1 (enS l i bk).2 with | none => rfl | some x => rw [hm] at h2; simp at h2, h3⟩]
theorem trF_no {l : List Arc} {G : List Int} {h : Int} {S : FMap × List Int} {i : Nat} {bk : Bool} (hn : ¬ ((enS l i bk).1 = h ∧ (mGet S.1 (enS l i bk).2).isSome = false ∧ 0 < lfS l G i bk)) : S = trF l G h S i bk := by
  unfold trF
  rw [if_neg (fun e => hn ⟨e.1, by rw [e.2.1]; rfl, e.2.2⟩)]
/- flow.flow).reach -/
set_option maxRecDepth 100000 in
set_option maxHeartbeats 4000000 in
theorem fl_reach {l : List Arc} {G : List Int} {fr : Int} (fb gb : Nat) (hl : ∀ a ∈ l, AOk a) (hll : l.length ≤ 1000000) (hg : G.length = l.length) (hr : ∀ i, i < l.length → 0 ≤ gvF G i ∧ gvF G i ≤ (arF l i).c) : Triple Try.prog 217 [(.v (.pointer (some ⟨fb, 0, none⟩))), .int fr] [.box fb [.sl 3 (l.map arcC), .v (slV (some gb) l.length l.length)], .sl (some gb) l.length 3 1 (G.map intA)] (fun q h' => ∃ bm m, q = .v (.map (some bm)) ∧ h' = .map bm (kvM stpA m) :: [.box fb [.sl 3 (l.map arcC), .v (slV (some gb) l.length l.length)], .sl (some gb) l.length 3 1 (G.map intA)] ∧ RW l G fr m ∧ Rch l G (st0F fr) m) := by
  refine triple_of Try.func217 rfl (by kernel_rfl) rfl (by simp) ?_
  refine aSeq ?_
  refine aReg ?_
  refine sp pMa ?_
  refine oNil ?_
  refine aSeq ?_
  refine aReg ?_
  refine sq ?_
  refine qMM stpA rfl (fun b15 => ?_)
  refine sp pM ?_
  refine sp (pBuild rfl st_258 ze_258 rfl rfl rfl rfl) ?_
  refine sa ?_
  refine oMI (c := stpA) (v := ((-1 : Int), false)) rfl rfl rfl rfl mo_256 ?_
  refine sp pM ?_
  refine sp pMa ?_
  refine oNil ?_
  refine aSeq ?_
  refine aSeq ?_
  refine aReg ?_
  refine sp pM ?_
  refine sq ?_
  refine qLit (l := [_]) rfl rfl (by decide) us_25 ty_3 ze_3 rfl (by decide) (by decide) rfl rfl rfl (fun b20 => ?_)
  refine sp pMa ?_
  refine oNil ?_
  refine aBlock ?_
  refine loopF (α := FMap × List Int × Nat × Nat × Nat × List Int × Nat) (kept := [(0, _), (5, _)]) (fun (m, q, b, o, c, d, C) => RQ l G fr (m, q) ∧ unF l m + q.length ≤ 2 * l.length + 1 ∧ (∀ r, Rch l G (m, q) r → Rch l G (st0F fr) r) ∧ q.length ≤ c ∧ (q ≠ [] → o = d.length * 1 ∧ C = d.length + c)) (fun (m, q, b, o, c, d, C) => [(6, .v (qV b o q.length c))]) (fun (m, q, b, o, c, d, C) => [.sl (some b) C 3 1 ((d ++ q).map intA), .map b15 (kvM stpA m)]) (fun (m, q, b, o, c, d, C) => unF l m + q.length) ([(fr, (-1, false))], [fr], _, 0, 1, [], 1) ?_ ⟨rfl, rfl, rfl, trivial⟩ (by repeat constructor) ?_
  · skip
    exact ⟨⟨.base, fun x hx => by simpa [mKeys] using hx⟩, by have := unF_le l [(fr, (-1, false))]; simp; omega, fun r h => h, by simp, fun _ => ⟨rfl, rfl⟩⟩
  · rintro ⟨m, q, b, o, c, d, C⟩ ⟨hrq, hun, hrc, hqc, hoc⟩
    refine aSeq ?_
    refine aSeq ?_
    refine aReg ?_
    refine sp pM ?_
    refine sp (by first | exact pLm sl_25 | exact pLs sl_25 | exact pLv sl_25) ?_
    refine sp pB ?_
    refine oNil ?_
    refine aCondDec rfl (fun c23 => ?_) (fun c23 => ?_)
    · skip
      refine aSkip ?_
      refine aSeq ?_
      refine aBlock ?_
      refine aSeq ?_
      obtain ⟨h, q', rfl⟩ : ∃ h q', q = h :: q' := by cases q with | nil => simp at * | cons h q' => exact ⟨h, q', rfl⟩
      obtain ⟨rfl, rfl⟩ := hoc (by simp)
      have hhk := hrq.sub h (by simp)
      have hql1 : (h :: q').length = q'.length + 1 := rfl
      have hun0 : unF l m + q'.length + 1 ≤ 2 * l.length + 1 := by simpa [Nat.add_assoc] using hun
      refine aReg ?_
      refine sp pM ?_
      refine sp pNv ?_
      refine sp (pFb fd_155_0) ?_
      refine sr (rB1 ty_22) ?_
      refine sp (by first | exact pLm sl_22 | exact pLs sl_22 | exact pLv sl_22) ?_
      refine sp pM ?_
      refine oNil ?_
      refine aBlock ?_
      refine loopF (α := Nat × (FMap × List Int) × Nat × Nat × List Int) (kept := [(0, _), (5, _), (30, _)]) (fun (i, S, b1, c1, d1) => i ≤ l.length ∧ RQ l G fr S ∧ h ∈ mKeys S.1 ∧ unF l S.1 + S.2.length ≤ unF l m + q'.length ∧ S.2.length + 1 ≤ c1 ∧ S = scF l G h (m, q') i) (fun (i, S, b1, c1, d1) => [(31, .int i), (6, .v (qV b1 (d1.length * 1) (h :: S.2).length c1))]) (fun (i, S, b1, c1, d1) => [.sl (some b1) (d1.length + c1) 3 1 ((d1 ++ (h :: S.2)).map intA), .map b15 (kvM stpA S.1)]) (fun (i, S, b1, c1, d1) => l.length - i) (0, (m, q'), _, _, _) ?_ ⟨gInt rfl (by first | rfl | omega | simp), rfl, rfl, rfl, rfl, trivial⟩ (by repeat constructor) ?_
      · skip
        exact ⟨by omega, ⟨hrq.rw, fun x hx => hrq.sub x (List.mem_cons_of_mem _ hx)⟩, hhk, Nat.le_refl _, by simpa using hqc, rfl⟩
      · rintro ⟨i, S, b1, c1, d1⟩ ⟨hi, hrq1, hhk1, hun1, hc1, hS⟩
        refine aSeq ?_
        refine aReg ?_
        refine sp pB ?_
        refine oNil ?_
        refine aSeq ?_
        refine aCondDec rfl (fun c32 => ?_) (fun c32 => ?_)
        · skip
          refine aSkip ?_
          refine aSeq ?_
          refine aBlock ?_
          refine aSeq ?_
          have hi2 : i < l.length := by omega
          have hac := hl _ (List.mem_of_getElem? (arF_get hi2))
          unfold AOk at hac
          replace hac : (arF l i).c ≤ 1073741824 := by omega
          refine aReg ?_
          refine sp pM ?_
          refine sp pMa ?_
          refine oNil ?_
          refine aSeq ?_
          refine aReg ?_
          refine sq ?_
          refine qLit (l := [_, _]) rfl rfl (by decide) us_294 ty_4 ze_4 rfl (by decide) (by decide) rfl rfl rfl (fun b34 => ?_)
          refine sp (pLv sl_294) ?_
          refine sp pM ?_
          refine oNil ?_
          refine aBlock ?_
          refine loopF (α := Nat × (FMap × List Int) × Nat × Nat × List Int) (kept := [(0, _), (5, _), (7, _), (30, _), (31, _), (34, _), (35, _)]) (fun (j, S2, b2, c2, d2) => j ≤ 2 ∧ RQ l G fr S2 ∧ h ∈ mKeys S2.1 ∧ unF l S2.1 + S2.2.length ≤ unF l m + q'.length ∧ S2.2.length + 1 ≤ c2 ∧ S2 = trK l G h S i j) (fun (j, S2, b2, c2, d2) => [(36, .int j), (6, .v (qV b2 (d2.length * 1) (h :: S2.2).length c2))]) (fun (j, S2, b2, c2, d2) => [.sl (some b2) (d2.length + c2) 3 1 ((d2 ++ (h :: S2.2)).map intA), .map b15 (kvM stpA S2.1)]) (fun (j, S2, b2, c2, d2) => 2 - j) (0, S, _, _, _) ?_ ⟨gInt rfl (by first | rfl | omega | simp), rfl, rfl, rfl, rfl, rfl, rfl, rfl, rfl, trivial⟩ (by repeat constructor) ?_
          · skip
            exact ⟨by omega, hrq1, hhk1, by omega, hc1, rfl⟩
          · rintro ⟨j, S2, b2, c2, d2⟩ ⟨hj, hrq2, hhk2, hun2, hc2, hS2⟩
            refine aSeq ?_
            refine aReg ?_
            refine sp pB ?_
            refine oNil ?_
            refine aSeq ?_
            refine aCondDec rfl (fun c37 => ?_) (fun c37 => ?_)
            · skip
              refine aSkip ?_
              refine aSeq ?_
              refine aBlock ?_
              refine aSeq ?_
              obtain ⟨bk, hbk⟩ : ∃ x, ([false, true] : List Bool)[j]? = some x := ⟨_, List.getElem?_eq_getElem (by simp; omega)⟩
              have hb2 : ([[.v (.bool false)], [.v (.bool true)]] : List (List AV))[j]? = some [.v (.bool bk)] := by
                have := congrArg (Option.map fun x => [AV.v (.bool x)]) hbk
                rwa [← List.getElem?_map] at this
              refine aReg ?_
              refine sp (pIo es_294) ?_
              refine sr (rLdO1 (i := j) (j := 0) rfl rfl (by repeat constructor) ty_4 (by simp) hb2 rfl) ?_
              refine sp pMa ?_
              refine oNil ?_
              refine aSeq ?_
              refine aReg ?_
              refine sp pM ?_
              refine sp pM ?_
              refine sp (pBuild rfl st_258 ze_258 rfl rfl rfl rfl) ?_
              refine sq ?_
              refine qAlloc rfl rfl (by decide) ze_258 rfl (fun b10 => ?_)
              refine sa ?_
              refine oStW rfl rfl rfl rfl (by repeat constructor) ty_258 ?_
              refine oNil ?_
              refine aSeq ?_
              refine aReg ?_
              refine sp pM ?_
              refine sr (by first | exact rBWa ty_258 | exact rBW ty_258 | exact rBA ty_258) ?_
              refine sa ?_
              refine cai rfl rfl rfl (fl_ends fb gb (G := G) (i := i) (bk := bk) hi2) ?_
              refine sp pM ?_
              refine sp pX ?_
              refine sp pX ?_
              refine sp pMa ?_
              refine sp pMa ?_
              refine oNil ?_
              refine aSeq ?_
              refine aReg ?_
              refine sp pM ?_
              refine sp pM ?_
              refine sr (rMGo mo_256 ze_258 ((0, false) : Int × Bool) cast_st) ?_
              refine sp pM ?_
              refine sp pX ?_
              refine sp pX ?_
              refine sq ?_
              refine qAlloc rfl rfl (by decide) ze_258 rfl (fun b13 => ?_)
              refine sa ?_
              refine oStW rfl rfl rfl rfl (by repeat constructor) ty_258 ?_
              refine sp pMa ?_
              refine oNil ?_
              refine aSeq ?_
              refine aReg ?_
              refine sp pM ?_
              refine sp pM ?_
              refine sp (pIdxO rfl rfl rfl es_25 (by decide) (by first | (simp; done) | (simp; omega))) ?_
              refine sr (rQ0 (d0 := d2) (r := S2.2) (a := h) (fC := intA) ty_3) ?_
              refine sp pB ?_
              refine sp pM ?_
              refine oSplitEq 60 rfl (fun c60 => ?_) (fun c60 => ?_)
              · skip
                refine gp pM ?_
                refine gp pNo ?_
                refine sp pK ?_
                refine sp pM ?_
                refine oSplitNot 64 rfl (fun c64 => ?_) (fun c64 => ?_)
                · skip
                  refine gp pM ?_
                  refine gr (by first | exact rBWa ty_258 | exact rBW ty_258 | exact rBA ty_258) ?_
                  refine ga ?_
                  refine cai rfl rfl rfl (fl_left fb gb (i := i) (bk := bk) hi2 hg (hr i hi2) hac) ?_
                  refine gp pB ?_
                  refine sp pK ?_
                  refine oNil ?_
                  refine aCondDec rfl (fun c69 => ?_) (fun c69 => ?_)
                  · skip
                    refine aSeq ?_
                    refine aReg ?_
                    refine sp pM ?_
                    refine sp pM ?_
                    refine sr (by first | exact rBWa ty_258 | exact rBW ty_258 | exact rBA ty_258) ?_
                    refine sa ?_
                    refine oMP (c := stpA) (v := ((i : Int), bk)) rfl rfl rfl rfl mo_256 ?_
                    refine oNil ?_
                    refine aReg ?_
                    refine sp pM ?_
                    refine sp pM ?_
                    refine sq ?_
                    refine qLit (l := [_]) rfl rfl (by decide) us_25 ty_3 ze_3 rfl (by decide) (by decide) rfl rfl rfl (fun b75 => ?_)
                    refine sa ?_
                    refine oAppQ (d0 := d2) (r := h :: S2.2) [(enS l i bk).2] rfl rfl (by repeat constructor) (srcOwn rfl (by repeat constructor) rfl) el_25 sl_25 (fun b76 d76 k76 hk76 => ?_)
                    refine sp pMa ?_
                    refine oNil ?_
                    refine aReg ?_
                    refine sp pAd ?_
                    refine sp pM ?_
                    refine oNil ?_
                    first
                      | (refine ⟨(j + 1, (mPut S2.1 (enS l i bk).2 ((i : Int), bk), S2.2 ++ [(enS l i bk).2]), b76, k76, d76), ?_, by (try dsimp only); omega, ⟨gInt rfl (by first | rfl | omega | simp), rfl, rfl, rfl, rfl, rfl, rfl, rfl, rfl, trivial⟩, _, (by repeat constructor)⟩
                         have htr := trF_yes (l := l) (G := G) (h := h) (S := S2) (i := i) (bk := bk) (by simp_all) (by simp_all) (by simp_all)
                         rw [htr]
                         have hu := trF_un (l := l) (G := G) (h := h) (S := S2) (i := i) (bk := bk) hi2
                         refine ⟨by omega, hrq2.tr hi2 hhk2, trF_keys hhk2, by omega, ?_, by rw [trK_step hbk, ← hS2]⟩
                         rw [← htr]
                         simpa using hk76)
                      | (refine ⟨(j + 1, S2, b2, c2, d2), ?_, by (try dsimp only); omega, ⟨gInt rfl (by first | rfl | omega | simp), rfl, rfl, rfl, rfl, rfl, rfl, rfl, rfl, trivial⟩, _, (by repeat constructor)⟩
                         have htr := trF_no (l := l) (G := G) (h := h) (S := S2) (i := i) (bk := bk) (fun e => by simp_all)
                         exact ⟨by omega, hrq2, hhk2, hun2, hc2, by rw [trK_step hbk, ← hS2]; exact htr⟩)
                  · skip
                    refine aSkip ?_
                    refine aReg ?_
                    refine sp pAd ?_
                    refine sp pM ?_
                    refine oNil ?_
                    first
                      | (refine ⟨(j + 1, (mPut S2.1 (enS l i bk).2 ((i : Int), bk), S2.2 ++ [(enS l i bk).2]), b76, k76, d76), ?_, by (try dsimp only); omega, ⟨gInt rfl (by first | rfl | omega | simp), rfl, rfl, rfl, rfl, rfl, rfl, rfl, rfl, trivial⟩, _, (by repeat constructor)⟩
                         have htr := trF_yes (l := l) (G := G) (h := h) (S := S2) (i := i) (bk := bk) (by simp_all) (by simp_all) (by simp_all)
                         rw [htr]
                         have hu := trF_un (l := l) (G := G) (h := h) (S := S2) (i := i) (bk := bk) hi2
                         refine ⟨by omega, hrq2.tr hi2 hhk2, trF_keys hhk2, by omega, ?_, by rw [trK_step hbk, ← hS2]⟩
                         rw [← htr]
                         simpa using hk76)
                      | (refine ⟨(j + 1, S2, b2, c2, d2), ?_, by (try dsimp only); omega, ⟨gInt rfl (by first | rfl | omega | simp), rfl, rfl, rfl, rfl, rfl, rfl, rfl, rfl, trivial⟩, _, (by repeat constructor)⟩
                         have htr := trF_no (l := l) (G := G) (h := h) (S := S2) (i := i) (bk := bk) (fun e => by simp_all)
                         exact ⟨by omega, hrq2, hhk2, hun2, hc2, by rw [trK_step hbk, ← hS2]; exact htr⟩)
                · skip
                  refine gf ?_
                  refine gf ?_
                  refine gf ?_
                  refine gf ?_
                  refine sp pK ?_
                  refine oNil ?_
                  refine aCondF rfl ?_
                  refine aSkip ?_
                  refine aReg ?_
                  refine sp pAd ?_
                  refine sp pM ?_
                  refine oNil ?_
                  first
                    | (refine ⟨(j + 1, (mPut S2.1 (enS l i bk).2 ((i : Int), bk), S2.2 ++ [(enS l i bk).2]), b76, k76, d76), ?_, by (try dsimp only); omega, ⟨gInt rfl (by first | rfl | omega | simp), rfl, rfl, rfl, rfl, rfl, rfl, rfl, rfl, trivial⟩, _, (by repeat constructor)⟩
                       have htr := trF_yes (l := l) (G := G) (h := h) (S := S2) (i := i) (bk := bk) (by simp_all) (by simp_all) (by simp_all)
                       rw [htr]
                       have hu := trF_un (l := l) (G := G) (h := h) (S := S2) (i := i) (bk := bk) hi2
                       refine ⟨by omega, hrq2.tr hi2 hhk2, trF_keys hhk2, by omega, ?_, by rw [trK_step hbk, ← hS2]⟩
                       rw [← htr]
                       simpa using hk76)
                    | (refine ⟨(j + 1, S2, b2, c2, d2), ?_, by (try dsimp only); omega, ⟨gInt rfl (by first | rfl | omega | simp), rfl, rfl, rfl, rfl, rfl, rfl, rfl, rfl, trivial⟩, _, (by repeat constructor)⟩
                       have htr := trF_no (l := l) (G := G) (h := h) (S := S2) (i := i) (bk := bk) (fun e => by simp_all)
                       exact ⟨by omega, hrq2, hhk2, hun2, hc2, by rw [trK_step hbk, ← hS2]; exact htr⟩)
              · skip
                refine gf ?_
                refine gf ?_
                refine sp pK ?_
                refine sp pM ?_
                refine gf ?_
                refine gf ?_
                refine gf ?_
                refine gf ?_
                refine sp pK ?_
                refine oNil ?_
                refine aCondF rfl ?_
                refine aSkip ?_
                refine aReg ?_
                refine sp pAd ?_
                refine sp pM ?_
                refine oNil ?_
                first
                  | (refine ⟨(j + 1, (mPut S2.1 (enS l i bk).2 ((i : Int), bk), S2.2 ++ [(enS l i bk).2]), b76, k76, d76), ?_, by (try dsimp only); omega, ⟨gInt rfl (by first | rfl | omega | simp), rfl, rfl, rfl, rfl, rfl, rfl, rfl, rfl, trivial⟩, _, (by repeat constructor)⟩
                     have htr := trF_yes (l := l) (G := G) (h := h) (S := S2) (i := i) (bk := bk) (by simp_all) (by simp_all) (by simp_all)
                     rw [htr]
                     have hu := trF_un (l := l) (G := G) (h := h) (S := S2) (i := i) (bk := bk) hi2
                     refine ⟨by omega, hrq2.tr hi2 hhk2, trF_keys hhk2, by omega, ?_, by rw [trK_step hbk, ← hS2]⟩
                     rw [← htr]
                     simpa using hk76)
                  | (refine ⟨(j + 1, S2, b2, c2, d2), ?_, by (try dsimp only); omega, ⟨gInt rfl (by first | rfl | omega | simp), rfl, rfl, rfl, rfl, rfl, rfl, rfl, rfl, trivial⟩, _, (by repeat constructor)⟩
                     have htr := trF_no (l := l) (G := G) (h := h) (S := S2) (i := i) (bk := bk) (fun e => by simp_all)
                     exact ⟨by omega, hrq2, hhk2, hun2, hc2, by rw [trK_step hbk, ← hS2]; exact htr⟩)
            · skip
              refine aExit rfl ?_
              refine aReg ?_
              refine sp pAd ?_
              refine sp pM ?_
              refine oNil ?_
              refine ⟨(i + 1, S2, b2, c2, d2), ?_, by (try dsimp only); omega, ⟨gInt rfl (by first | rfl | omega | simp), rfl, rfl, rfl, rfl, trivial⟩, _, (by repeat constructor)⟩
              obtain rfl : j = 2 := by omega
              exact ⟨by omega, hrq2, hhk2, by omega, hc2, by rw [scF_step, ← hS]; exact hS2⟩
        · skip
          refine aExit rfl ?_
          dsimp only
          rw [show d1 ++ h :: S.2 = (d1 ++ [h]) ++ S.2 by simp]
          refine aReg ?_
          refine sp pM ?_
          refine sp (pSlQ rfl rfl es_25 (bdI rfl) (by simp) (by simp; omega)) ?_
          refine sp pMa ?_
          refine oNil ?_
          refine ⟨(S.1, S.2, b1, (if c1 = 1 then d1.length * 1 else d1.length * 1 + 1 * 1), c1 - 1, d1 ++ [h], d1.length + c1), ?_, by (try dsimp only); omega, ⟨rfl, rfl, rfl, trivial⟩, _, (by repeat constructor)⟩
          dsimp only
          obtain rfl : i = l.length := by omega
          refine ⟨⟨hrq1.rw, hrq1.sub⟩, by omega, fun r hh => hrc r (.step (by rw [← hS]; exact hh)), by omega, fun hne => ?_⟩
          have hne := List.length_pos_iff.2 hne
          rw [if_neg (by omega)]
          simp
          omega
    · skip
      refine aExit rfl ?_
      refine aSeq ?_
      refine aReg ?_
      refine sp pM ?_
      refine sp pMa ?_
      refine oNil ?_
      refine aRet ?_
      obtain rfl : q = [] := List.eq_nil_of_length_eq_zero (by omega)
      exact ⟨_, _, _, rfl, (.cons (by repeat constructor) (.cons (by repeat constructor) (.cons (by repeat constructor) .nil))), b15, m, rfl, rfl, hrq.rw, hrc _ .done⟩
end A
end Go.Proofs.Ytmcannmjielalaa
set_option linter.unusedVariables false
set_option linter.unusedSimpArgs false
namespace Go.Proofs.Ytmcannmjielalaa
namespace A
theorem el_298 : elemOf Try.prog 298 = some (258, 2, 16) := by kernel_rfl
theorem es_298 : elemSize Try.prog 298 = some 2 := by kernel_rfl
theorem pt_152 : isPtrT Try.prog 152 = true := by kernel_rfl
theorem sl_298 : isSl Try.prog 298 = true := by kernel_rfl
theorem st_155 : structPlaces Try.prog 155 = some [(0, 1), (1, 1)] := by kernel_rfl
theorem us_298 : Try.prog.underlying 298 = some (.slice 258) := by kernel_rfl
theorem ze_155 : zeroOf Try.prog 155 = some (.agg #[.slice none 0 0, .slice none 0 0]) := by kernel_rfl
def stpC (s : Nat × Bool) : List AV := [.int s.1, .v (.bool s.2)]
theorem way_len {l : List Arc} {G : List Int} {m : FMap} {fr v : Int} {w : List (Nat × Bool)} (h : Way l G m fr v w) (hn : (w.map Prod.fst).Nodup) : w.length ≤ l.length := by
  have := List.Nodup.length_le_of_subset hn (l₂ := List.range l.length) (fun i hi => by
    obtain ⟨s, hs, rfl⟩ := List.mem_map.1 hi
    exact List.mem_range.2 (h.at s hs).1)
  simpa using this
theorem btF_rng {l : List Arc} {G : List Int} {m : FMap} {fr v : Int} {w : List (Nat × Bool)} (h : Way l G m fr v w) (hne : w ≠ []) : 0 < btF l G w (hdF l G w) := by
  have hat := h.at
  have hhd : 0 < hdF l G w := by
    cases w with
    | nil => exact absurd rfl hne
    | cons s w => exact (hat s (by simp)).2
  exact btF_pos w _ hhd (fun s hs => (hat s hs).2)
theorem nodup_take {w : List (Nat × Bool)} {k : Nat} {s : Nat × Bool} (hn : (w.map Prod.fst).Nodup) (h : w[k]? = some s) : s.1 ∉ (w.take k).map Prod.fst := fun hm => by
  have e : w = w.take k ++ w.drop k := (List.take_append_drop k w).symm
  rw [e, drop_step h, List.map_append, List.nodup_append] at hn
  exact hn.2.2 _ hm _ (by simp) rfl
/- flow.flow).push -/
def fl_push_r21_T : Bool × List (List Nat × List Nat) := (true, [([], []), ([0], [0]), ([1], [1]), ([2], [2]), ([], []), ([4], [4]), ([3, 5], [3, 5]), ([6], [6]), ([], []), ([7, 8], [7, 8]), ([3, 5, 0, 1, 2, 3, 4, 5, 6, 7, 8, 9], [3, 5]), ([10, 9, 0, 1, 2, 3, 4, 5, 6, 7, 8, 9], [9, 10])])
def fl_push_r21_B : List Nat := [0, 1, 3, 7, 0, 16, 63, 127, 0, 511, 1023, 2047]
theorem fl_push_r21_t : Go.Proofs.YtmcannmjielalaaW.PrintLast.rtab .any (Go.Proofs.YtmcannmjielalaaW.PrintLast.opsOf Try.f218 21) = fl_push_r21_T := by kernel_rfl
theorem fl_push_r21_b : Go.Proofs.YtmcannmjielalaaW.PrintLast.waitsOk fl_push_r21_T.2 fl_push_r21_B = true := by kernel_rfl
def fl_push_r22_T : Bool × List (List Nat × List Nat) := (true, [([], []), ([0], [0]), ([1], [1]), ([2], [2]), ([], []), ([4], [4]), ([3, 5], [3, 5]), ([6], [6]), ([], []), ([7, 8], [7, 8]), ([3, 5, 0, 1, 2, 3, 4, 5, 6, 7, 8, 9], [3, 5]), ([10, 9, 0, 1, 2, 3, 4, 5, 6, 7, 8, 9], [9, 10])])
def fl_push_r22_B : List Nat := [0, 1, 3, 7, 0, 16, 63, 127, 0, 511, 1023, 2047]
theorem fl_push_r22_t : Go.Proofs.YtmcannmjielalaaW.PrintLast.rtab .any (Go.Proofs.YtmcannmjielalaaW.PrintLast.opsOf Try.f218 22) = fl_push_r22_T := by kernel_rfl
theorem fl_push_r22_b : Go.Proofs.YtmcannmjielalaaW.PrintLast.waitsOk fl_push_r22_T.2 fl_push_r22_B = true := by kernel_rfl
set_option maxRecDepth 100000 in
set_option maxHeartbeats 4000000 in
theorem fl_push {l : List Arc} {G : List Int} {fr to_ V : Int} (fb gb : Nat) (hl : ∀ a ∈ l, AOk a) (hll : l.length ≤ 1000000) (hF : FlOk l fr to_ G V) (hne : fr ≠ to_) : Triple Try.prog 218 [(.v (.pointer (some ⟨fb, 0, none⟩))), .int fr, .int to_] [.box fb [.sl 3 (l.map arcC), .v (slV (some gb) l.length l.length)], .sl (some gb) l.length 3 1 (G.map intA)] (fun q h' => ∃ (t : Bool) (G' : List Int) (V' : Int), q = .v (.bool t) ∧ h' = [.box fb [.sl 3 (l.map arcC), .v (slV (some gb) l.length l.length)], .sl (some gb) l.length 3 1 (G'.map intA)] ∧ FlOk l fr to_ G' V' ∧ (t = false → G' = G ∧ V' = V ∧ PushN l fr to_ G) ∧ (t = true → PushS l fr to_ G G' ∧ V < V')) := by
  have hcc : ∀ i, i < l.length → (arF l i).c ≤ 1073741824 := fun i hi => by
    have := hl _ (List.mem_of_getElem? (arF_get hi))
    unfold AOk at this
    omega
  refine triple_of Try.func218 rfl (by kernel_rfl) rfl (by simp) ?_
  refine aSeq ?_
  refine aReg ?_
  refine sp pMa ?_
  refine oNil ?_
  refine aSeq ?_
  refine aReg ?_
  refine sp pM ?_
  refine sp pM ?_
  refine sa ?_
  refine ca rfl rfl rfl (fl_reach (fr := fr) fb gb hl hll hF.len hF.rng) ?_
  rintro _ _ ⟨bm, m, rfl, rfl, hrw, hrch⟩
  refine sp pMa ?_
  refine oNil ?_
  refine aSeq ?_
  refine aSeq ?_
  refine aReg ?_
  refine sp pM ?_
  refine sp pM ?_
  refine sr (rMGo mo_256 ze_258 ((0, false) : Int × Bool) cast_st) ?_
  refine sp pM ?_
  refine sp pX ?_
  refine sp pX ?_
  refine sq ?_
  refine qAlloc rfl rfl (by decide) ze_258 rfl (fun b8 => ?_)
  refine sa ?_
  refine oStW rfl rfl rfl rfl (by repeat constructor) ty_258 ?_
  refine sp pMa ?_
  refine oNil ?_
  refine aSeq ?_
  refine aReg ?_
  refine sp pM ?_
  refine sp pNo ?_
  refine oNil ?_
  refine aCondNot rfl (fun c28 => ?_) (fun c28 => ?_)
  · skip
    refine aSeq ?_
    refine aReg ?_
    refine sp pMa ?_
    refine oNil ?_
    refine aRet ?_
    exact ⟨_, [.box fb [.sl 3 (l.map arcC), .v (slV (some gb) l.length l.length)], .sl (some gb) l.length 3 1 (G.map intA)], _, rfl, (.cons (by repeat constructor) (.cons (by repeat constructor) .nil)), false, G, V, rfl, rfl, hF, fun _ => ⟨rfl, rfl, m, hrch, by simp_all⟩, fun e => by simp at e⟩
  · skip
    refine aSkip ?_
    refine aSeq ?_
    have htm : to_ ∈ mKeys m := mGet_mem.1 (by simp_all)
    obtain ⟨w, hw, hwk, hwn⟩ := hrw.way to_ htm
    have hwl := hw.at
    have hwle := way_len hw hwn
    refine aWeak (weak_nil 258 2) ?_
    refine aReg ?_
    refine sp pMa ?_
    refine oNil ?_
    refine aSeq ?_
    refine aSeq ?_
    refine aReg ?_
    refine sp pM ?_
    refine sp pMa ?_
    refine oNil ?_
    refine aBlock ?_
    refine loopF (α := List (Nat × Bool) × List (Nat × Bool) × Int × Option Nat × Nat) (kept := [(0, _), (1, _), (7, _)]) (fun (dn, rs, v, g, c) => dn ++ rs = w ∧ Way l G m fr v rs) (fun (dn, rs, v, g, c) => [(10, .v (slV g dn.length c)), (11, .int v)]) (fun (dn, rs, v, g, c) => [.sl g c 258 2 (dn.map stpC)]) (fun (dn, rs, v, g, c) => rs.length) ([], w, to_, _, _) ?_ ⟨gLen rfl (by first | rfl | simp | (simp; omega)), gInt rfl (by first | rfl | omega | simp), rfl, rfl, rfl, trivial⟩ (by repeat constructor) ?_
    · skip
      exact ⟨rfl, hw⟩
    · rintro ⟨dn, rs, v, g, c⟩ ⟨hdr, hwr⟩
      refine aSeq ?_
      refine aSeq ?_
      refine aReg ?_
      refine sp pM ?_
      refine sp pM ?_
      refine sp pB ?_
      refine oNil ?_
      refine aCondNe rfl (fun c32 => ?_) (fun c32 => ?_)
      · skip
        refine aSkip ?_
        refine aBlock ?_
        refine aSeq ?_
        obtain ⟨i, bk, rs', rfl, hmv, hiw, hev, hlf, hw'⟩ : ∃ i bk rs', rs = (i, bk) :: rs' ∧ mGet m v = some ((i : Int), bk) ∧ i < l.length ∧ (enS l i bk).2 = v ∧ 0 < lfS l G i bk ∧ Way l G m fr (enS l i bk).1 rs' := by
          cases hwr with
          | nil => simp_all
          | cons h1 h2 h3 h4 h5 h6 => exact ⟨_, _, _, rfl, h2, h3, h4, h5, h6⟩
        have hrl : ((i, bk) :: rs').length = rs'.length + 1 := rfl
        have hdl : dn.length + (rs'.length + 1) = w.length := by rw [← hdr]; simp
        refine aReg ?_
        refine sp pM ?_
        refine sp pM ?_
        refine sr (rMG mo_256 ze_258 ((0, false) : Int × Bool) cast_st) ?_
        rw [show (mGet m v).getD (0, false) = ((i : Int), bk) by rw [hmv]; rfl]
        refine sq ?_
        refine qAlloc rfl rfl (by decide) ze_258 rfl (fun b12 => ?_)
        refine sa ?_
        refine oStW rfl rfl rfl rfl (by repeat constructor) ty_258 ?_
        refine oNil ?_
        refine aSeq ?_
        refine aReg ?_
        refine sp pM ?_
        refine sr (by first | exact rBWa ty_258 | exact rBW ty_258 | exact rBA ty_258) ?_
        refine sq ?_
        refine qLit (l := [_]) rfl rfl (by decide) us_298 ty_258 ze_258 rfl (by decide) (by decide) rfl rfl rfl (fun b38 => ?_)
        refine sa ?_
        refine oAppT ([(i, bk)] : List (Nat × Bool)) rfl rfl (by repeat constructor) (srcOwn rfl (by repeat constructor) rfl) el_298 sl_298 (fun g39 k39 => ?_)
        refine sp pMa ?_
        refine oNil ?_
        refine aReg ?_
        refine sp pM ?_
        refine sr (by first | exact rBWa ty_258 | exact rBW ty_258 | exact rBA ty_258) ?_
        refine sa ?_
        refine cai rfl rfl rfl (fl_ends fb gb (G := G) (i := i) (bk := bk) hiw) ?_
        refine sp pM ?_
        refine sp pX ?_
        refine sp pX ?_
        refine sp pMa ?_
        refine oNil ?_
        refine ⟨(dn ++ [(i, bk)], rs', (enS l i bk).1, _, _), ?_, by (try dsimp only); omega, ⟨gLen rfl (by first | rfl | simp | (simp; omega)), gInt rfl (by first | rfl | omega | simp), rfl, rfl, rfl, trivial⟩, _, (by repeat constructor)⟩
        exact ⟨by rw [← hdr]; simp, hw'⟩
      · skip
        refine aExit rfl ?_
        refine aSeq ?_
        have hvf : v = fr := by simp_all
        have hrs : rs = [] := by
          cases hwr with
          | nil => rfl
          | cons h1 => exact absurd hvf h1
        subst hrs
        rw [List.append_nil] at hdr
        have hdr2 := hdr.symm
        subst hdr2
        have hwne : w ≠ [] := fun e => by
          subst e
          cases hw
          exact hne rfl
        have hwp := List.length_pos_iff.2 hwne
        obtain ⟨w0, hw0⟩ : ∃ z, w[0]? = some z := ⟨_, List.getElem?_eq_getElem hwp⟩
        have hm0 := List.mem_of_getElem? hw0
        have hh0 : hdF l G w = lfS l G w0.1 w0.2 := by
          unfold hdF
          rw [List.getD, hw0]
          rfl
        have hwx : w[(0 : Int).toNat]? = some w0 := hw0
        have hbt := btF_rng hw hwne
        have hbh := btF_le0 (l := l) (G := G) w (hdF l G w)
        refine aWeak (weak_settle (k := 10) rfl (by repeat constructor) (by first | rfl | (simp; done) | (simp; omega) | (simp_all; done))) ?_
        refine aReg ?_
        refine sp pM ?_
        refine sp pM ?_
        first | refine sp (pIx es_298) ?_ | refine sp (pIo es_298) ?_
        refine sr (by first | exact rSW ty_258 rfl | exact rSA ty_258) ?_
        refine sa ?_
        refine cai rfl rfl rfl (fl_left fb gb (i := w0.1) (bk := w0.2) (hwl _ hm0).1 hF.len (hF.rng _ (hwl _ hm0).1) (hcc _ (hwl _ hm0).1)) ?_
        refine sp pMa ?_
        refine oNil ?_
        refine aSeq ?_
        refine aSeq ?_
        refine aReg ?_
        refine sp pM ?_
        refine sp (by first | exact pLm sl_298 | exact pLs sl_298) ?_
        refine sp pM ?_
        refine oNil ?_
        refine aBlock ?_
        refine loopF (α := Nat × Int) (kept := [(0, _), (10, _), (51, _), (52, _)]) (fun (k, n) => k ≤ w.length ∧ n = btF l G (w.take k) (hdF l G w)) (fun (k, n) => [(53, .int k), (13, .int n)]) (fun (k, n) => []) (fun (k, n) => w.length - k) (0, hdF l G w) ?_ ⟨gInt rfl (by first | rfl | omega | simp), gInt rfl (by first | rfl | omega | simp), rfl, rfl, rfl, rfl, trivial⟩ (by repeat constructor) ?_
        · skip
          exact ⟨by omega, rfl⟩
        · rintro ⟨k, n⟩ ⟨hk, hn⟩
          refine aSeq ?_
          refine aReg ?_
          refine sp pB ?_
          refine oNil ?_
          refine aSeq ?_
          refine aCondDec rfl (fun c54 => ?_) (fun c54 => ?_)
          · skip
            refine aSkip ?_
            refine aSeq ?_
            refine aBlock ?_
            refine aSeq ?_
            obtain ⟨s, hs⟩ : ∃ z, w[k]? = some z := ⟨_, List.getElem?_eq_getElem (by omega)⟩
            have hms := List.mem_of_getElem? hs
            refine aReg ?_
            first | refine sp (pIx es_298) ?_ | (refine obtSN 51 53 rfl rfl (by omega) (fun x55 hx55 => ?_); refine sp (pIs es_298 hx55) ?_) | (refine obtS 51 53 rfl rfl (by omega) (by omega) (fun x55 hx55 => ?_); refine sp (pIs es_298 hx55) ?_) | refine sp (pIo es_298) ?_
            refine sr (by first | exact rSW ty_258 rfl | exact rSA ty_258) ?_
            refine sq ?_
            refine qAlloc rfl rfl (by decide) ze_258 rfl (fun b15 => ?_)
            refine sa ?_
            refine oStW rfl rfl rfl rfl (by repeat constructor) ty_258 ?_
            refine oNil ?_
            refine aReg ?_
            refine sp pM ?_
            refine sp pM ?_
            refine sr (by first | exact rBWa ty_258 | exact rBW ty_258 | exact rBA ty_258) ?_
            refine sa ?_
            refine cai rfl rfl rfl (fl_left fb gb (i := s.1) (bk := s.2) (hwl _ hms).1 hF.len (hF.rng _ (hwl _ hms).1) (hcc _ (hwl _ hms).1)) ?_
            refine sp pMin ?_
            refine sp pMa ?_
            refine oNil ?_
            refine aReg ?_
            refine sp pAd ?_
            refine sp pM ?_
            refine oNil ?_
            refine ⟨(k + 1, _), ?_, by (try dsimp only); omega, ⟨gInt rfl (by first | rfl | omega | simp), gInt rfl (by first | rfl | omega | simp), rfl, rfl, rfl, rfl, trivial⟩, _, (by repeat constructor)⟩
            refine ⟨by omega, ?_⟩
            rw [btF_step hs, ← hn]
          · skip
            refine aExit rfl ?_
            refine aSeq ?_
            refine aSeq ?_
            obtain rfl : k = w.length := by omega
            rw [take_all (by omega)] at hn
            subst hn
            refine aReg ?_
            refine sp pM ?_
            refine sp (by first | exact pLm sl_298 | exact pLs sl_298) ?_
            refine sp pM ?_
            refine oNil ?_
            refine aBlock ?_
            refine loopF (α := Nat × List Int) (kept := [(0, _), (13, _), (63, _), (64, _)]) (fun (k, G1) => k ≤ w.length ∧ G1 = upsF (btF l G w (hdF l G w)) G (w.take k)) (fun (k, G1) => [(65, .int k)]) (fun (k, G1) => [.sl (some gb) l.length 3 1 (G1.map intA)]) (fun (k, G1) => w.length - k) (0, G) ?_ ⟨gInt rfl (by first | rfl | omega | simp), rfl, rfl, rfl, rfl, trivial⟩ (by repeat constructor) ?_
            · skip
              exact ⟨by omega, rfl⟩
            · rintro ⟨k, G1⟩ ⟨hk, hG1⟩
              refine aSeq ?_
              refine aReg ?_
              refine sp pB ?_
              refine oNil ?_
              refine aSeq ?_
              refine aCondDec rfl (fun c66 => ?_) (fun c66 => ?_)
              · skip
                refine aSkip ?_
                refine aSeq ?_
                refine aBlock ?_
                refine aSeq ?_
                obtain ⟨s, hs⟩ : ∃ z, w[k]? = some z := ⟨_, List.getElem?_eq_getElem (by omega)⟩
                have hms := List.mem_of_getElem? hs
                obtain ⟨i, bk⟩ := s
                have hil : i < l.length := (hwl _ hms).1
                have hgl : G1.length = l.length := by rw [hG1, upsF_len]; exact hF.len
                have hgx := gvF_get (G := G1) (i := i) (by omega)
                have hge : gvF G1 i = gvF G i := by rw [hG1]; exact upsF_out (nodup_take hwn hs)
                have hrg := hF.rng i hil
                have hcl := hcc i hil
                have hb1 := btF_le (l := l) (G := G) w (hdF l G w) _ hms
                have hb2 : (btF l G w (hdF l G w)) ≤ 1073741824 := by
                  unfold lfS at hb1
                  cases bk
                  · simp only [Bool.false_eq_true, if_false] at hb1; omega
                  · simp only [if_true] at hb1; omega
                rw [← hge] at hrg
                refine aReg ?_
                first | refine sp (pIx es_298) ?_ | (refine obtSN 63 65 rfl rfl (by omega) (fun x67 hx67 => ?_); refine sp (pIs es_298 hx67) ?_) | (refine obtS 63 65 rfl rfl (by omega) (by omega) (fun x67 hx67 => ?_); refine sp (pIs es_298 hx67) ?_) | refine sp (pIo es_298) ?_
                refine sr (by first | exact rSW ty_258 rfl | exact rSA ty_258) ?_
                refine sq ?_
                refine qAlloc rfl rfl (by decide) ze_258 rfl (fun b17 => ?_)
                refine sa ?_
                refine oStW rfl rfl rfl rfl (by repeat constructor) ty_258 ?_
                refine oNil ?_
                refine aSeq ?_
                refine aReg ?_
                refine sp (pFb fd_258_1) ?_
                refine sr (rB1 ty_4) ?_
                refine oNil ?_
                refine aCond rfl (fun c70 => ?_) (fun c70 => ?_)
                · skip
                  refine aDrawT fl_push_r21_t fl_push_r21_b [11] 12 #[false, false, false, false, false, false, false, false, false, false, false, false] (by kernel_rfl) rfl rfl (fun HT => ?_)
                  refine dp HT 0 rfl pM ?_
                  refine dp HT 1 rfl pNv ?_
                  refine dp HT 2 rfl (pFb fd_155_1) ?_
                  refine dr HT 3 rfl (rB1 ty_25) ?_
                  refine dp HT 4 rfl (pFb fd_258_0) ?_
                  refine dr HT 5 rfl (rB1 ty_3) ?_
                  first | refine dp HT 6 rfl (pIx es_25) ?_ | (refine obtDN 74 76 rfl rfl (by omega) (fun x77 hx77 => ?_); refine dp HT 6 rfl (pIs es_25 hx77) ?_) | (refine obtD 74 76 rfl rfl (by omega) (by omega) (fun x77 hx77 => ?_); refine dp HT 6 rfl (pIs es_25 hx77) ?_) | refine dp HT 6 rfl (pIo es_25) ?_
                  refine dr HT 7 rfl (rO1 ty_3 hgx) ?_
                  refine dp HT 8 rfl pM ?_
                  refine dp HT 9 rfl pSu ?_
                  first | refine dp HT 10 rfl (pIx es_25) ?_ | (refine obtDN 74 76 rfl rfl (by omega) (fun x81 hx81 => ?_); refine dp HT 10 rfl (pIs es_25 hx81) ?_) | (refine obtD 74 76 rfl rfl (by omega) (by omega) (fun x81 hx81 => ?_); refine dp HT 10 rfl (pIs es_25 hx81) ?_) | refine dp HT 10 rfl (pIo es_25) ?_
                  refine dGo ?_
                  refine eLast ?_
                  refine f1 HT 11 rfl ?_
                  refine oStE (fC := intA) (l := G1) (a := gvF G1 i - (btF l G w (hdF l G w))) (i := (i : Int)) rfl rfl rfl rfl ty_3 ?_
                  refine fE HT ?_
                  clear HT
                  refine aReg ?_
                  refine sp pAd ?_
                  refine sp pM ?_
                  refine oNil ?_
                  refine ⟨(k + 1, _), ?_, by (try dsimp only); omega, ⟨gInt rfl (by first | rfl | omega | simp), rfl, rfl, rfl, rfl, trivial⟩, _, (by repeat constructor)⟩
                  refine ⟨by omega, ?_⟩
                  rw [upsF_step hs, ← hG1]
                  unfold upF
                  simp_all
                · skip
                  refine aDrawT fl_push_r22_t fl_push_r22_b [11] 12 #[false, false, false, false, false, false, false, false, false, false, false, false] (by kernel_rfl) rfl rfl (fun HT => ?_)
                  refine dp HT 0 rfl pM ?_
                  refine dp HT 1 rfl pNv ?_
                  refine dp HT 2 rfl (pFb fd_155_1) ?_
                  refine dr HT 3 rfl (rB1 ty_25) ?_
                  refine dp HT 4 rfl (pFb fd_258_0) ?_
                  refine dr HT 5 rfl (rB1 ty_3) ?_
                  first | refine dp HT 6 rfl (pIx es_25) ?_ | (refine obtDN 85 87 rfl rfl (by omega) (fun x88 hx88 => ?_); refine dp HT 6 rfl (pIs es_25 hx88) ?_) | (refine obtD 85 87 rfl rfl (by omega) (by omega) (fun x88 hx88 => ?_); refine dp HT 6 rfl (pIs es_25 hx88) ?_) | refine dp HT 6 rfl (pIo es_25) ?_
                  refine dr HT 7 rfl (rO1 ty_3 hgx) ?_
                  refine dp HT 8 rfl pM ?_
                  refine dp HT 9 rfl pAd ?_
                  first | refine dp HT 10 rfl (pIx es_25) ?_ | (refine obtDN 85 87 rfl rfl (by omega) (fun x92 hx92 => ?_); refine dp HT 10 rfl (pIs es_25 hx92) ?_) | (refine obtD 85 87 rfl rfl (by omega) (by omega) (fun x92 hx92 => ?_); refine dp HT 10 rfl (pIs es_25 hx92) ?_) | refine dp HT 10 rfl (pIo es_25) ?_
                  refine dGo ?_
                  refine eLast ?_
                  refine f1 HT 11 rfl ?_
                  refine oStE (fC := intA) (l := G1) (a := gvF G1 i + (btF l G w (hdF l G w))) (i := (i : Int)) rfl rfl rfl rfl ty_3 ?_
                  refine fE HT ?_
                  clear HT
                  refine aReg ?_
                  refine sp pAd ?_
                  refine sp pM ?_
                  refine oNil ?_
                  refine ⟨(k + 1, _), ?_, by (try dsimp only); omega, ⟨gInt rfl (by first | rfl | omega | simp), rfl, rfl, rfl, rfl, trivial⟩, _, (by repeat constructor)⟩
                  refine ⟨by omega, ?_⟩
                  rw [upsF_step hs, ← hG1]
                  unfold upF
                  simp_all
              · skip
                refine aExit rfl ?_
                refine aSeq ?_
                refine aReg ?_
                refine sp pMa ?_
                refine oNil ?_
                refine aRet ?_
                obtain rfl : k = w.length := by omega
                rw [take_all (by omega)] at hG1
                have hp := hF.push hw hwn hwne
                exact ⟨_, [.box fb [.sl 3 (l.map arcC), .v (slV (some gb) l.length l.length)], .sl (some gb) l.length 3 1 (G1.map intA)], _, rfl, (.cons (by repeat constructor) (.cons (by repeat constructor) .nil)), true, G1, _, rfl, rfl, by rw [hG1]; exact hp.1, fun e => by simp at e, fun _ => ⟨⟨m, w, hrch, hw, hwne, hG1⟩, by omega⟩⟩
theorem fl_Nodes {l : List Arc} (hok : arcsB none l = true) (hl : l.length ≤ 1000000 := by omega) : Triple Try.prog 29 [.sl 3 (l.map arcC)] [] (Is (.sl 1 ((nodesM l).map intA)) []) := by
  have h := (graph_Nodes (l := l) hl).settle
  rw [hok, if_pos rfl] at h
  exact h
theorem rep_i0 : ∀ (F : Nat → Prop) (w : World) (j : Nat) (av : AV) (x : Value), (intA 0 : List AV)[j]? = some av → (Value.int .i64 0).cells[j]? = some x → Rep F w av x := fun F w j av x h1 h2 => by
  match j with
  | 0 =>
    simp [intA, Value.cells] at h1 h2
    subst h1; subst h2
    exact .v _
  | j + 1 => simp [intA] at h1
/- flow.greatest -/
set_option maxRecDepth 100000 in
set_option maxHeartbeats 2000000 in
theorem fl_greatest {l : List Arc} {fr to_ : Int} (hok : arcsB none l = true) (hll : l.length ≤ 1000000) (hne : fr ≠ to_) (hc1 : (nodesM l).contains fr = true) (hc2 : (nodesM l).contains to_ = true) : Triple Try.prog 124 [.sl 3 (l.map arcC), .int fr, .int to_] [] (fun q h' => ∃ fb gb G V, q = (.v (.pointer (some ⟨fb, 0, none⟩))) ∧ h' = [.box fb [.sl 3 (l.map arcC), .v (slV (some gb) l.length l.length)], .sl (some gb) l.length 3 1 (G.map intA)] ∧ FlOk l fr to_ G V ∧ Gr l fr to_ (List.replicate l.length 0) G) := by
  have hl := arcs_ok hok
  have hnl := nodesM_len l
  refine triple_of Try.func124 rfl (by kernel_rfl) rfl (by simp) ?_
  refine aSeq ?_
  refine aReg ?_
  refine sp pMa ?_
  refine oNil ?_
  refine aSeq ?_
  refine aReg ?_
  refine sp pM ?_
  refine sq ?_
  refine ci rfl rfl rfl (fl_Nodes hok) ?_
  refine sp pMa ?_
  refine oNil ?_
  refine aSeq ?_
  refine aSeq ?_
  refine aReg ?_
  refine sp pM ?_
  refine sp pM ?_
  refine sp (pBl (by exact pB) (show _ = false from decide_eq_false hne)) ?_
  refine sp pM ?_
  refine gp pM ?_
  refine gp pM ?_
  refine ga ?_
  refine (cv rfl rfl rfl (lents_refl _) (contains_int (l := nodesM l) (n := fr) (by omega)) ?_).op
  refine gp (pBl (by exact pNo) (show _ = false from by rw [hc1]; rfl)) ?_
  refine sp pK ?_
  refine sp pM ?_
  refine gp pM ?_
  refine gp pM ?_
  refine ga ?_
  refine (cv rfl rfl rfl (lents_refl _) (contains_int (l := nodesM l) (n := to_) (by omega)) ?_).op
  refine gp (pBl (by exact pNo) (show _ = false from by rw [hc2]; rfl)) ?_
  refine sp pK ?_
  refine oNil ?_
  refine aCondF rfl ?_
  refine aSkip ?_
  refine aSeq ?_
  refine aReg ?_
  refine sp pM ?_
  refine sp pM ?_
  refine sp (by first | exact pLm sl_22 | exact pLs sl_22) ?_
  refine sq ?_
  refine qMake (n := l.length) (zs := intA 0) rfl rfl (by decide) rfl rfl rfl rfl el_25 ze_3 rfl rfl rep_i0 (by omega) (by omega) (fun b29 => ?_)
  rw [show List.replicate l.length (intA 0) = (List.replicate l.length (0 : Int)).map intA from (List.map_replicate ..).symm]
  refine sp (pBuild rfl st_155 ze_155 rfl rfl rfl rfl) ?_
  refine sq ?_
  refine qBox rfl rfl (by decide) rfl rfl (fun b31 => ?_)
  refine sp pMa ?_
  refine oNil ?_
  refine aSeq ?_
  refine aBlock ?_
  refine loopF (α := List Int × Int) (kept := [(1, _), (2, _), (8, _)]) (fun (G, V) => FlOk l fr to_ G V ∧ (∀ R, Gr l fr to_ G R → Gr l fr to_ (List.replicate l.length 0) R)) (fun (G, V) => []) (fun (G, V) => [.sl (some b29) l.length 3 1 (G.map intA)]) (fun (G, V) => (l.length * 1073741824 + 1 - V).toNat) (List.replicate l.length 0, 0) ?_ ⟨rfl, rfl, rfl, trivial⟩ (by repeat constructor) ?_
  · skip
    exact ⟨.zero hl fr to_, fun R h => h⟩
  · rintro ⟨G, V⟩ ⟨hF, hG⟩
    refine aSeq ?_
    refine aSeq ?_
    refine aReg ?_
    refine sp pM ?_
    refine sp pM ?_
    refine sp pM ?_
    refine sa ?_
    refine ca rfl rfl rfl (fl_push (V := V) b31 b29 hl hll hF hne) ?_
    rintro _ _ ⟨t, G', V', rfl, rfl, hF', hP0, hP1⟩
    have hle := hF.le hl hne
    have hle' := hF'.le hl hne
    refine oNil ?_
    refine aCond rfl (fun c35 => ?_) (fun c35 => ?_)
    · skip
      refine aSkip ?_
      refine aBlock ?_
      refine aSkip ?_
      refine ⟨(G', V'), ?_, by (try dsimp only); (have := (hP1 (by assumption)).2; omega), ⟨rfl, rfl, rfl, trivial⟩, _, (by repeat constructor)⟩
      have hq := hP1 (by assumption)
      exact ⟨hF', fun R h => hG R (.step hq.1 h)⟩
    · skip
      refine aExit rfl ?_
      refine aSeq ?_
      obtain ⟨rfl, rfl, hPN⟩ := hP0 (by assumption)
      refine aReg ?_
      refine sp pM ?_
      refine sp pMa ?_
      refine oNil ?_
      refine aRet ?_
      exact ⟨_, _, _, rfl, (.cons (by repeat constructor) (.cons (by repeat constructor) .nil)), b31, b29, G', V', rfl, rfl, hF', hG _ (.done hPN)⟩
/- flow.greatest -/
set_option maxRecDepth 100000 in
set_option maxHeartbeats 400000 in
theorem fl_greatest0a {l : List Arc} {fr to_ : Int} (hok : arcsB none l = true) (hll : l.length ≤ 1000000) (hne : fr = to_) : Triple Try.prog 124 [.sl 3 (l.map arcC), .int fr, .int to_] [] (Is (.v (.pointer none)) []) := by
  have hl := arcs_ok hok
  have hnl := nodesM_len l
  refine triple_of Try.func124 rfl (by kernel_rfl) rfl (by simp) ?_
  refine aSeq ?_
  refine aReg ?_
  refine sp pMa ?_
  refine oNil ?_
  refine aSeq ?_
  refine aReg ?_
  refine sp pM ?_
  refine sq ?_
  refine ci rfl rfl rfl (fl_Nodes hok) ?_
  refine sp pMa ?_
  refine oNil ?_
  refine aSeq ?_
  refine aSeq ?_
  refine aReg ?_
  refine sp pM ?_
  refine sp pM ?_
  refine sp (pBl (by exact pB) (show _ = true from decide_eq_true hne)) ?_
  refine sp pM ?_
  refine gf ?_
  refine gf ?_
  refine gf ?_
  refine gf ?_
  refine sp pK ?_
  refine sp pM ?_
  refine gf ?_
  refine gf ?_
  refine gf ?_
  refine gf ?_
  refine sp pK ?_
  refine oNil ?_
  refine aCondT rfl ?_
  refine aSeq ?_
  refine aReg ?_
  refine sp pMa ?_
  refine oNil ?_
  refine aRet ?_
  refine finIs rfl ?_
  rfl
/- flow.greatest -/
set_option maxRecDepth 100000 in
set_option maxHeartbeats 400000 in
theorem fl_greatest0b {l : List Arc} {fr to_ : Int} (hok : arcsB none l = true) (hll : l.length ≤ 1000000) (hne : fr ≠ to_) (hc1 : (nodesM l).contains fr = false) : Triple Try.prog 124 [.sl 3 (l.map arcC), .int fr, .int to_] [] (Is (.v (.pointer none)) []) := by
  have hl := arcs_ok hok
  have hnl := nodesM_len l
  refine triple_of Try.func124 rfl (by kernel_rfl) rfl (by simp) ?_
  refine aSeq ?_
  refine aReg ?_
  refine sp pMa ?_
  refine oNil ?_
  refine aSeq ?_
  refine aReg ?_
  refine sp pM ?_
  refine sq ?_
  refine ci rfl rfl rfl (fl_Nodes hok) ?_
  refine sp pMa ?_
  refine oNil ?_
  refine aSeq ?_
  refine aSeq ?_
  refine aReg ?_
  refine sp pM ?_
  refine sp pM ?_
  refine sp (pBl (by exact pB) (show _ = false from decide_eq_false hne)) ?_
  refine sp pM ?_
  refine gp pM ?_
  refine gp pM ?_
  refine ga ?_
  refine (cv rfl rfl rfl (lents_refl _) (contains_int (l := nodesM l) (n := fr) (by omega)) ?_).op
  refine gp (pBl (by exact pNo) (show _ = true from by rw [hc1]; rfl)) ?_
  refine sp pK ?_
  refine sp pM ?_
  refine gf ?_
  refine gf ?_
  refine gf ?_
  refine gf ?_
  refine sp pK ?_
  refine oNil ?_
  refine aCondT rfl ?_
  refine aSeq ?_
  refine aReg ?_
  refine sp pMa ?_
  refine oNil ?_
  refine aRet ?_
  refine finIs rfl ?_
  rfl
/- flow.greatest -/
set_option maxRecDepth 100000 in
set_option maxHeartbeats 400000 in
theorem fl_greatest0c {l : List Arc} {fr to_ : Int} (hok : arcsB none l = true) (hll : l.length ≤ 1000000) (hne : fr ≠ to_) (hc1 : (nodesM l).contains fr = true) (hc2 : (nodesM l).contains to_ = false) : Triple Try.prog 124 [.sl 3 (l.map arcC), .int fr, .int to_] [] (Is (.v (.pointer none)) []) := by
  have hl := arcs_ok hok
  have hnl := nodesM_len l
  refine triple_of Try.func124 rfl (by kernel_rfl) rfl (by simp) ?_
  refine aSeq ?_
  refine aReg ?_
  refine sp pMa ?_
  refine oNil ?_
  refine aSeq ?_
  refine aReg ?_
  refine sp pM ?_
  refine sq ?_
  refine ci rfl rfl rfl (fl_Nodes hok) ?_
  refine sp pMa ?_
  refine oNil ?_
  refine aSeq ?_
  refine aSeq ?_
  refine aReg ?_
  refine sp pM ?_
  refine sp pM ?_
  refine sp (pBl (by exact pB) (show _ = false from decide_eq_false hne)) ?_
  refine sp pM ?_
  refine gp pM ?_
  refine gp pM ?_
  refine ga ?_
  refine (cv rfl rfl rfl (lents_refl _) (contains_int (l := nodesM l) (n := fr) (by omega)) ?_).op
  refine gp (pBl (by exact pNo) (show _ = false from by rw [hc1]; rfl)) ?_
  refine sp pK ?_
  refine sp pM ?_
  refine gp pM ?_
  refine gp pM ?_
  refine ga ?_
  refine (cv rfl rfl rfl (lents_refl _) (contains_int (l := nodesM l) (n := to_) (by omega)) ?_).op
  refine gp (pBl (by exact pNo) (show _ = true from by rw [hc2]; rfl)) ?_
  refine sp pK ?_
  refine oNil ?_
  refine aCondT rfl ?_
  refine aSeq ?_
  refine aReg ?_
  refine sp pMa ?_
  refine oNil ?_
  refine aRet ?_
  refine finIs rfl ?_
  rfl
theorem fl_greatest0 {l : List Arc} {fr to_ : Int} (hok : arcsB none l = true) (hll : l.length ≤ 1000000) (hno : ¬ (fr ≠ to_ ∧ (nodesM l).contains fr = true ∧ (nodesM l).contains to_ = true)) : Triple Try.prog 124 [.sl 3 (l.map arcC), .int fr, .int to_] [] (Is (.v (.pointer none)) []) := by
  by_cases hne : fr = to_
  · exact fl_greatest0a hok hll hne
  · cases hc1 : (nodesM l).contains fr with
    | false => exact fl_greatest0b hok hll hne hc1
    | true => cases hc2 : (nodesM l).contains to_ with
      | false => exact fl_greatest0c hok hll hne hc1 hc2
      | true => exact absurd ⟨hne, hc1, hc2⟩ hno
theorem FlOk.abs {l : List Arc} {fr to_ V : Int} {G : List Int} (hl : ∀ a ∈ l, AOk a) (h : FlOk l fr to_ G V) (v : Int) {i : Nat} (hi : i ≤ l.length) : -(i * 1073741824) ≤ pot (l.take i) (G.take i) (indF v) ∧ pot (l.take i) (G.take i) (indF v) ≤ i * 1073741824 := by
  have := pot_abs (C := 1073741824) (indF_01 v) (l := l.take i) (G := G.take i) (fun a ha => by
    have := hl a (List.mem_of_mem_take ha)
    unfold AOk at this
    omega) (by decide) (fun j hj => by
    rw [List.length_take] at hj
    have h2 := h.rng j (by omega)
    have e1 : arF (l.take i) j = arF l j := by unfold arF; rw [List.getD, List.getD, List.getElem?_take, if_pos (by omega)]
    have e2 : gvF (G.take i) j = gvF G j := by unfold gvF; rw [List.getD, List.getD, List.getElem?_take, if_pos (by omega)]
    rw [e1, e2]
    exact h2)
  rw [List.length_take, Nat.min_eq_left hi] at this
  exact this
theorem ind_step {a : Arc} {v x : Int} (h : AOk a) : x * (indF v a.f - indF v a.t) = if v = a.f then x else if v = a.t then -x else 0 := by
  unfold AOk at h
  unfold indF
  by_cases h1 : v = a.f
  · rw [if_pos h1, if_pos h1.symm, if_neg (by omega)]; omega
  · rw [if_neg h1, if_neg (fun e => h1 e.symm)]
    by_cases h2 : v = a.t
    · rw [if_pos h2, if_pos h2.symm]; omega
    · rw [if_neg h2, if_neg (fun e => h2 e.symm)]; omega
/- flow.Most -/
set_option maxRecDepth 100000 in
set_option maxHeartbeats 2000000 in
theorem fl_Most1 {l : List Arc} {fr to_ : Int} (hok : arcsB none l = true) (hll : l.length ≤ 1000000) (hne : fr ≠ to_) (hc1 : (nodesM l).contains fr = true) (hc2 : (nodesM l).contains to_ = true) : Triple Try.prog 39 [.sl 3 (l.map arcC), .int fr, .int to_] [] (fun q h' => ∃ G V, q = .v (.int .u64 V) ∧ h' = [] ∧ FlOk l fr to_ G V ∧ Gr l fr to_ (List.replicate l.length 0) G) := by
  have hl := arcs_ok hok
  refine triple_of Try.func39 rfl (by kernel_rfl) rfl (by simp) ?_
  refine aSeq ?_
  refine aReg ?_
  refine sp pMa ?_
  refine oNil ?_
  refine aSeq ?_
  refine aReg ?_
  refine sp pM ?_
  refine sp pM ?_
  refine sp pM ?_
  refine sa ?_
  refine ca rfl rfl rfl (fl_greatest hok hll hne hc1 hc2) ?_
  rintro _ _ ⟨fb, gb, G, V, rfl, rfl, hF, hG⟩
  have hgl := hF.len
  refine sp pMa ?_
  refine oNil ?_
  refine aSeq ?_
  refine aSeq ?_
  refine aReg ?_
  refine sp pM ?_
  refine sp (by first | exact pPtrNil rfl (.inl rfl) rfl pt_152 rfl (rfl : _ = false) | exact pSpNil rfl (.inl rfl) rfl pt_152 (rfl : _ = false)) ?_
  refine oNil ?_
  refine aCondF rfl ?_
  refine aSkip ?_
  refine aSeq ?_
  refine aReg ?_
  refine sp pMa ?_
  refine oNil ?_
  refine aSeq ?_
  refine aSeq ?_
  refine aReg ?_
  refine sp pM ?_
  refine sp (by first | exact pLm sl_22 | exact pLs sl_22) ?_
  refine sp pM ?_
  refine oNil ?_
  refine aBlock ?_
  refine loopF (α := Nat × Int) (kept := [(1, _), (7, _), (17, _), (18, _)]) (fun (i, n) => i ≤ l.length ∧ n = pot (l.take i) (G.take i) (indF fr)) (fun (i, n) => [(19, .int i), (8, .int n)]) (fun (i, n) => []) (fun (i, n) => l.length - i) (0, 0) ?_ ⟨gInt rfl (by first | rfl | omega | simp), gInt rfl (by first | rfl | omega | simp), rfl, rfl, rfl, rfl, trivial⟩ (by repeat constructor) ?_
  · skip
    exact ⟨by omega, rfl⟩
  · rintro ⟨i, n⟩ ⟨hi, hn⟩
    refine aSeq ?_
    refine aReg ?_
    refine sp pB ?_
    refine oNil ?_
    refine aSeq ?_
    refine aCondDec rfl (fun c20 => ?_) (fun c20 => ?_)
    · skip
      refine aSkip ?_
      refine aSeq ?_
      refine aBlock ?_
      refine aSeq ?_
      have hil : i < l.length := by omega
      obtain ⟨a, ha⟩ : ∃ z, l[i]? = some z := ⟨_, List.getElem?_eq_getElem hil⟩
      obtain ⟨x, hx⟩ : ∃ z, G[i]? = some z := ⟨_, List.getElem?_eq_getElem (by omega)⟩
      have hab := hF.abs hl fr hi
      rw [← hn] at hab
      have hak := hl a (List.mem_of_getElem? ha)
      have hpt := pot_take (φ := indF fr) ha hx
      rw [ind_step hak, ← hn] at hpt
      have hxr := hF.rng i hil
      rw [gvF_at hx, arF_at ha] at hxr
      have hak2 := hak
      unfold AOk at hak2
      refine aReg ?_
      refine sp pM ?_
      first | refine sp (pIx es_22) ?_ | (refine obtSN 17 19 rfl rfl (by omega) (fun x22 hx22 => ?_); refine sp (pIs es_22 hx22) ?_) | (refine obtS 17 19 rfl rfl (by omega) (by omega) (fun x22 hx22 => ?_); refine sp (pIs es_22 hx22) ?_) | refine sp (pIo es_22) ?_
      refine sr (by first | exact rSW ty_36 rfl | exact rSA ty_36) ?_
      refine sq ?_
      refine qAlloc rfl rfl (by decide) ze_36 rfl (fun b10 => ?_)
      refine sp pMa ?_
      refine sa ?_
      refine oStW rfl rfl rfl rfl (by repeat constructor) ty_36 ?_
      refine oNil ?_
      refine aSeq ?_
      refine aReg ?_
      refine sp pM ?_
      refine oNil ?_
      refine aBlock ?_
      refine aSeq ?_
      refine aReg ?_
      refine sp (pFb fd_36_0) ?_
      refine sr (rB1 ty_3) ?_
      refine sp pB ?_
      refine sp pMa ?_
      refine oNil ?_
      refine aCondEq rfl (fun c25 => ?_) (fun c25 => ?_)
      · skip
        refine aReg ?_
        refine sp pM ?_
        refine sp pM ?_
        refine sp (by first | exact pNv | exact pNs) ?_
        refine sp (by first | exact pFb fd_155_1 | exact pFs fd_155_1) ?_
        refine sr (by first | exact rS1 ty_25 | exact rB1 ty_25 | exact rAr ty_25 | exact rArL ty_25 | exact rArR2 ty_25) ?_
        refine sp pM ?_
        first | refine sp (pIx es_25) ?_ | (refine obtSN 33 34 rfl rfl (by omega) (fun x35 hx35 => ?_); refine sp (pIs es_25 hx35) ?_) | (refine obtS 33 34 rfl rfl (by omega) (by omega) (fun x35 hx35 => ?_); refine sp (pIs es_25 hx35) ?_) | refine sp (pIo es_25) ?_
        refine sr (rO1 ty_3 hx) ?_
        refine sp pAd ?_
        refine sp pMa ?_
        refine oNil ?_
        refine aReg ?_
        refine sp pAd ?_
        refine sp pM ?_
        refine oNil ?_
        refine ⟨(i + 1, _), ?_, by (try dsimp only); omega, ⟨gInt rfl (by first | rfl | omega | simp), gInt rfl (by first | rfl | omega | simp), rfl, rfl, rfl, rfl, trivial⟩, _, (by repeat constructor)⟩
        refine ⟨by omega, ?_⟩
        rw [hpt]
        first
          | (rw [if_pos (by assumption)]; done)
          | (rw [if_neg (by assumption), if_pos (by assumption)]; omega)
          | (rw [if_neg (by assumption), if_neg (by assumption)]; omega)
          | (simp_all; done)
          | (simp_all; omega)
      · skip
        refine aSeq ?_
        refine aReg ?_
        refine sp (pFb fd_36_1) ?_
        refine sr (rB1 ty_3) ?_
        refine sp pB ?_
        refine sp pMa ?_
        refine oNil ?_
        refine aCondEq rfl (fun c38 => ?_) (fun c38 => ?_)
        · skip
          refine aReg ?_
          refine sp pM ?_
          refine sp pM ?_
          refine sp (by first | exact pNv | exact pNs) ?_
          refine sp (by first | exact pFb fd_155_1 | exact pFs fd_155_1) ?_
          refine sr (by first | exact rS1 ty_25 | exact rB1 ty_25 | exact rAr ty_25 | exact rArL ty_25 | exact rArR2 ty_25) ?_
          refine sp pM ?_
          first | refine sp (pIx es_25) ?_ | (refine obtSN 46 47 rfl rfl (by omega) (fun x48 hx48 => ?_); refine sp (pIs es_25 hx48) ?_) | (refine obtS 46 47 rfl rfl (by omega) (by omega) (fun x48 hx48 => ?_); refine sp (pIs es_25 hx48) ?_) | refine sp (pIo es_25) ?_
          refine sr (rO1 ty_3 hx) ?_
          refine sp pSu ?_
          refine sp pMa ?_
          refine oNil ?_
          refine aReg ?_
          refine sp pAd ?_
          refine sp pM ?_
          refine oNil ?_
          refine ⟨(i + 1, _), ?_, by (try dsimp only); omega, ⟨gInt rfl (by first | rfl | omega | simp), gInt rfl (by first | rfl | omega | simp), rfl, rfl, rfl, rfl, trivial⟩, _, (by repeat constructor)⟩
          refine ⟨by omega, ?_⟩
          rw [hpt]
          first
            | (rw [if_pos (by assumption)]; done)
            | (rw [if_neg (by assumption), if_pos (by assumption)]; omega)
            | (rw [if_neg (by assumption), if_neg (by assumption)]; omega)
            | (simp_all; done)
            | (simp_all; omega)
        · skip
          refine aSkip ?_
          refine aReg ?_
          refine sp pAd ?_
          refine sp pM ?_
          refine oNil ?_
          refine ⟨(i + 1, _), ?_, by (try dsimp only); omega, ⟨gInt rfl (by first | rfl | omega | simp), gInt rfl (by first | rfl | omega | simp), rfl, rfl, rfl, rfl, trivial⟩, _, (by repeat constructor)⟩
          refine ⟨by omega, ?_⟩
          rw [hpt]
          first
            | (rw [if_pos (by assumption)]; done)
            | (rw [if_neg (by assumption), if_pos (by assumption)]; omega)
            | (rw [if_neg (by assumption), if_neg (by assumption)]; omega)
            | (simp_all; done)
            | (simp_all; omega)
    · skip
      refine aExit rfl ?_
      refine aSeq ?_
      obtain rfl : i = l.length := by omega
      rw [take_all (by omega), take_all (by omega), hF.most hne] at hn
      subst hn
      have h0V := hF.pos
      have hVl := hF.le hl hne
      refine aReg ?_
      refine sp pM ?_
      refine sp (by first | exact pCvK ik_3 ik_37 | exact pConv rfl rfl ik_3 ik_37 rfl) ?_
      refine sp pMa ?_
      refine oNil ?_
      refine aRet ?_
      refine ⟨_, [], _, rfl, .nil, G, _, rfl, rfl, hF, hG⟩
/- flow.Most -/
set_option maxRecDepth 100000 in
set_option maxHeartbeats 400000 in
theorem fl_Most0 {l : List Arc} {fr to_ : Int} (hok : arcsB none l = true) (hll : l.length ≤ 1000000) (hno : ¬ (fr ≠ to_ ∧ (nodesM l).contains fr = true ∧ (nodesM l).contains to_ = true)) : Triple Try.prog 39 [.sl 3 (l.map arcC), .int fr, .int to_] [] (Is (.v (.int .u64 0)) []) := by
  refine triple_of Try.func39 rfl (by kernel_rfl) rfl (by simp) ?_
  refine aSeq ?_
  refine aReg ?_
  refine sp pMa ?_
  refine oNil ?_
  refine aSeq ?_
  refine aReg ?_
  refine sp pM ?_
  refine sp pM ?_
  refine sp pM ?_
  refine sq ?_
  refine ci rfl rfl rfl (fl_greatest0 hok hll hno) ?_
  refine sp pMa ?_
  refine oNil ?_
  refine aSeq ?_
  refine aSeq ?_
  refine aReg ?_
  refine sp pM ?_
  refine sp (by first | exact pPtrNil rfl (.inl rfl) rfl pt_152 rfl (rfl : _ = true) | exact pSpNil rfl (.inl rfl) rfl pt_152 (rfl : _ = true)) ?_
  refine oNil ?_
  refine aCondT rfl ?_
  refine aSeq ?_
  refine aReg ?_
  refine sp pMa ?_
  refine oNil ?_
  refine aRet ?_
  refine finIs rfl ?_
  rfl
end A
end Go.Proofs.Ytmcannmjielalaa
set_option linter.unusedVariables false
set_option linter.unusedSimpArgs false
namespace Go.Proofs.Ytmcannmjielalaa
namespace A
theorem RW.keys {l : List Arc} {G : List Int} {fr : Int} {m : FMap} (hl : ∀ a ∈ l, AOk a) (hf : 1 ≤ fr ∧ fr ≤ 64) (h : RW l G fr m) : (mKeys m).Nodup ∧ ∀ x ∈ mKeys m, 0 ≤ x ∧ x < ((65 : Nat) : Int) := by
  induction h with
  | base => exact ⟨by simp [mKeys], fun x hx => by simp [mKeys] at hx; omega⟩
  | snoc hr h1 h2 h3 h4 ih =>
    rename_i m i bk
    rw [mKeys_app]
    refine ⟨List.nodup_append.2 ⟨ih.1, by simp [mKeys], fun x hx y hy e => ?_⟩, fun x hx => ?_⟩
    · simp [mKeys] at hy
      subst hy; subst e
      exact h4 hx
    · rcases List.mem_append.1 hx with hx | hx
      · exact ih.2 x hx
      · simp [mKeys] at hx
        subst hx
        have := hl _ (List.mem_of_getElem? (arF_get h1))
        unfold AOk at this
        unfold enS
        cases bk <;> simp <;> omega
theorem RW.len {l : List Arc} {G : List Int} {fr : Int} {m : FMap} (hl : ∀ a ∈ l, AOk a) (hf : 1 ≤ fr ∧ fr ≤ 64) (h : RW l G fr m) : m.length ≤ 65 := mLen (h.keys hl hf).1 (h.keys hl hf).2
/- flow.Amounts -/
set_option maxRecDepth 100000 in
set_option maxHeartbeats 400000 in
theorem fl_Amounts1 {l : List Arc} {fr to_ : Int} (hok : arcsB none l = true) (hll : l.length ≤ 1000000) (hne : fr ≠ to_) (hc1 : (nodesM l).contains fr = true) (hc2 : (nodesM l).contains to_ = true) (hV : ∀ G V, FlOk l fr to_ G V → Gr l fr to_ (List.replicate l.length 0) G → V ≠ 0) : Triple Try.prog 122 [.sl 3 (l.map arcC), .int fr, .int to_] [] (fun q h' => ∃ (gb : Nat) (G : List Int), q = .v (slV (some gb) l.length l.length) ∧ h' = [.sl (some gb) l.length 3 1 (G.map intA)]) := by
  have hl := arcs_ok hok
  refine triple_of Try.func122 rfl (by kernel_rfl) rfl (by simp) ?_
  refine aSeq ?_
  refine aReg ?_
  refine sp pMa ?_
  refine oNil ?_
  refine aSeq ?_
  refine aSeq ?_
  refine aReg ?_
  refine sp pM ?_
  refine sp pM ?_
  refine sp pM ?_
  refine sa ?_
  refine ca rfl rfl rfl (fl_Most1 hok hll hne hc1 hc2) ?_
  rintro _ _ ⟨G0, V0, rfl, rfl, hF0, hG0⟩
  have hV0 := hV G0 V0 hF0 hG0
  refine sp (pBl (by exact pB) (show _ = false from decide_eq_false hV0)) ?_
  refine oNil ?_
  refine aCondF rfl ?_
  refine aSkip ?_
  refine aSeq ?_
  refine aReg ?_
  refine sp pM ?_
  refine sp pM ?_
  refine sp pM ?_
  refine sa ?_
  refine ca rfl rfl rfl (fl_greatest hok hll hne hc1 hc2) ?_
  rintro _ _ ⟨fb, gb, G, V, rfl, rfl, hF, hG⟩
  refine sp (by first | exact pNv | exact pNs) ?_
  refine sp (by first | exact pFb fd_155_1 | exact pFs fd_155_1) ?_
  refine sr (by first | exact rS1 ty_25 | exact rB1 ty_25 | exact rAr ty_25 | exact rArL ty_25 | exact rArR2 ty_25) ?_
  refine sp pMa ?_
  refine oNil ?_
  refine aRet ?_
  exact ⟨_, [.sl (some gb) l.length 3 1 (G.map intA)], _, rfl, (.cons (by repeat constructor) .nil), gb, G, rfl, rfl⟩
/- flow.Cut -/
set_option maxRecDepth 100000 in
set_option maxHeartbeats 400000 in
theorem fl_Cut1 {l : List Arc} {fr to_ : Int} (hok : arcsB none l = true) (hll : l.length ≤ 1000000) (hne : fr ≠ to_) (hc1 : (nodesM l).contains fr = true) (hc2 : (nodesM l).contains to_ = true) : Triple Try.prog 123 [.sl 3 (l.map arcC), .int fr, .int to_] [] (fun q h' => ∃ G m, q = .sl 1 ((sortI (mKeys m)).map intA) ∧ h' = [] ∧ Gr l fr to_ (List.replicate l.length 0) G ∧ Rch l G (st0F fr) m) := by
  have hl := arcs_ok hok
  have hfr := nodesM_rng hl (by simpa using hc1 : fr ∈ nodesM l)
  refine triple_of Try.func123 rfl (by kernel_rfl) rfl (by simp) ?_
  refine aSeq ?_
  refine aReg ?_
  refine sp pMa ?_
  refine oNil ?_
  refine aSeq ?_
  refine aReg ?_
  refine sp pM ?_
  refine sp pM ?_
  refine sp pM ?_
  refine sa ?_
  refine ca rfl rfl rfl (fl_greatest hok hll hne hc1 hc2) ?_
  rintro _ _ ⟨fb, gb, G, V, rfl, rfl, hF, hG⟩
  refine sp pMa ?_
  refine oNil ?_
  refine aSeq ?_
  refine aSeq ?_
  refine aReg ?_
  refine sp pM ?_
  refine sp (by first | exact pPtrNil rfl (.inl rfl) rfl pt_152 rfl (rfl : _ = false) | exact pSpNil rfl (.inl rfl) rfl pt_152 (rfl : _ = false)) ?_
  refine oNil ?_
  refine aCondF rfl ?_
  refine aSkip ?_
  refine aSeq ?_
  refine aReg ?_
  refine sp pM ?_
  refine sp pM ?_
  refine sa ?_
  refine ca rfl rfl rfl (fl_reach (fr := fr) fb gb hl hll hF.len hF.rng) ?_
  rintro _ _ ⟨bm, m, rfl, rfl, hrw, hrch⟩
  refine sa ?_
  refine ca rfl rfl rfl (keys_mis bm) ?_
  rintro _ _ ⟨pb, rfl, rfl⟩
  refine sa ?_
  refine cai rfl rfl rfl (sorted_int_s _ _ (kvM stpA m) _ (keys1_mis_iter bm pb (kvM stpA m)) (by rw [kvM_len]; have := hrw.len hl hfr; omega)) ?_
  rw [kvM_keys]
  refine sp pMa ?_
  refine oNil ?_
  refine aRet ?_
  exact ⟨_, [], _, rfl, .nil, G, m, rfl, rfl, hG, hrch⟩
/- waymarkref49.Holds -/
set_option maxRecDepth 100000 in
set_option maxHeartbeats 2000000 in
theorem ref49_Holds {l : List Arc} {ns : List Int} (hl : ∀ a ∈ l, AOk a) (hll : l.length ≤ 1000000) (hnl : ns.length ≤ 1000000) : Triple Try.prog 40 [.sl 3 (l.map arcC), .sl 1 (ns.map intA)] [] (Is (.v (.int .u64 (holdF l ns))) []) := by
  refine triple_of Try.func40 rfl (by kernel_rfl) rfl (by simp) ?_
  refine aSeq ?_
  refine aReg ?_
  refine sp pMa ?_
  refine oNil ?_
  refine aSeq ?_
  refine aReg ?_
  refine sp pMa ?_
  refine oNil ?_
  refine aSeq ?_
  refine aSeq ?_
  refine aReg ?_
  refine sp pMa ?_
  refine oNil ?_
  refine aBlock ?_
  refine loopF (α := Nat × Int) (kept := [(0, _), (1, _)]) (fun (i, n) => i ≤ l.length ∧ n = holdF (l.take i) ns) (fun (i, n) => [(6, .int i), (5, .v (.int .u64 n))]) (fun (i, n) => []) (fun (i, n) => l.length - i) (0, 0) ?_ ⟨gInt rfl (by first | rfl | omega | simp), rfl, rfl, rfl, trivial⟩ (by repeat constructor) ?_
  · skip
    exact ⟨by omega, rfl⟩
  · rintro ⟨i, n⟩ ⟨hi, hv⟩
    refine aSeq ?_
    refine aSeq ?_
    refine aReg ?_
    refine sp pM ?_
    refine sp pM ?_
    refine sp (by first | exact pLm sl_22 | exact pLs sl_22) ?_
    refine sp pB ?_
    refine oNil ?_
    refine aCondDec rfl (fun c10 => ?_) (fun c10 => ?_)
    · skip
      refine aSkip ?_
      refine aSeq ?_
      refine aBlock ?_
      refine aSeq ?_
      obtain ⟨a, ha⟩ : ∃ z, l[i]? = some z := ⟨_, List.getElem?_eq_getElem (by omega)⟩
      have hak := hl a (List.mem_of_getElem? ha)
      have hkk := hak
      unfold AOk at hkk
      have hrg := holdF_rng (l := l.take i) (ns := ns) (fun b hb => hl b (List.mem_of_mem_take hb))
      rw [List.length_take, Nat.min_eq_left hi, ← hv] at hrg
      refine aReg ?_
      refine sp pM ?_
      refine sp pM ?_
      refine sp pM ?_
      first | refine sp (pIx es_22) ?_ | (refine obtSN 14 15 rfl rfl (by omega) (fun x16 hx16 => ?_); refine sp (pIs es_22 hx16) ?_) | (refine obtS 14 15 rfl rfl (by omega) (by omega) (fun x16 hx16 => ?_); refine sp (pIs es_22 hx16) ?_) | refine sp (pIo es_22) ?_
      refine sp (pFs fd_36_0) ?_
      refine sr (rS1 ty_3) ?_
      refine sq ?_
      refine cv rfl rfl rfl (lents_refl _) (ref27_Has (l := ns) (n := a.f) (by omega)) ?_
      refine sp pM ?_
      refine oSplit 20 rfl (fun c20 => ?_) (fun c20 => ?_)
      · skip
        refine gp pM ?_
        refine gp pM ?_
        refine gp pM ?_
        first | refine gp (pIx es_22) ?_ | (refine obtSN 22 23 rfl rfl (by omega) (fun x24 hx24 => ?_); refine gp (pIs es_22 hx24) ?_) | (refine obtS 22 23 rfl rfl (by omega) (by omega) (fun x24 hx24 => ?_); refine gp (pIs es_22 hx24) ?_) | refine gp (pIo es_22) ?_
        refine gp (pFs fd_36_1) ?_
        refine gr (rS1 ty_3) ?_
        refine ga ?_
        refine (cv rfl rfl rfl (lents_refl _) (ref27_Has (l := ns) (n := a.t) (by omega)) ?_).op
        refine gp pNo ?_
        refine sp pK ?_
        refine oNil ?_
        refine aCondNot rfl (fun c29 => ?_) (fun c29 => ?_)
        · skip
          refine aReg ?_
          refine sp pM ?_
          refine sp pM ?_
          refine sp pM ?_
          first | refine sp (pIx es_22) ?_ | (refine obtSN 31 32 rfl rfl (by omega) (fun x33 hx33 => ?_); refine sp (pIs es_22 hx33) ?_) | (refine obtS 31 32 rfl rfl (by omega) (by omega) (fun x33 hx33 => ?_); refine sp (pIs es_22 hx33) ?_) | refine sp (pIo es_22) ?_
          refine sp (pFs fd_36_2) ?_
          refine sr (rS1 ty_3) ?_
          refine sp (by first | exact pCvK ik_3 ik_37 | exact pConv rfl rfl ik_3 ik_37 rfl) ?_
          refine sp (by first | exact pAdK | exact pB) ?_
          refine sp pMa ?_
          refine oNil ?_
          refine aReg ?_
          refine sp pM ?_
          refine sp pAd ?_
          refine sp pMa ?_
          refine oNil ?_
          refine ⟨(i + 1, _), ?_, by (try dsimp only); omega, ⟨gInt rfl (by first | rfl | omega | simp), rfl, rfl, rfl, trivial⟩, _, (by repeat constructor)⟩
          refine ⟨by omega, ?_⟩
          rw [holdF_step ha, ← hv]
          first
            | (rw [if_pos (by simp_all)]; done)
            | (rw [if_neg (by simp_all)]; omega)
        · skip
          refine aSkip ?_
          refine aReg ?_
          refine sp pM ?_
          refine sp pAd ?_
          refine sp pMa ?_
          refine oNil ?_
          refine ⟨(i + 1, _), ?_, by (try dsimp only); omega, ⟨gInt rfl (by first | rfl | omega | simp), rfl, rfl, rfl, trivial⟩, _, (by repeat constructor)⟩
          refine ⟨by omega, ?_⟩
          rw [holdF_step ha, ← hv]
          first
            | (rw [if_pos (by simp_all)]; done)
            | (rw [if_neg (by simp_all)]; omega)
      · skip
        refine gf ?_
        refine gf ?_
        refine gf ?_
        refine gf ?_
        refine gf ?_
        refine gf ?_
        refine gf ?_
        refine gf ?_
        refine sp pK ?_
        refine oNil ?_
        refine aCondF rfl ?_
        refine aSkip ?_
        refine aReg ?_
        refine sp pM ?_
        refine sp pAd ?_
        refine sp pMa ?_
        refine oNil ?_
        refine ⟨(i + 1, _), ?_, by (try dsimp only); omega, ⟨gInt rfl (by first | rfl | omega | simp), rfl, rfl, rfl, trivial⟩, _, (by repeat constructor)⟩
        refine ⟨by omega, ?_⟩
        rw [holdF_step ha, ← hv]
        first
          | (rw [if_pos (by simp_all)]; done)
          | (rw [if_neg (by simp_all)]; omega)
    · skip
      refine aExit rfl ?_
      refine aSeq ?_
      refine aReg ?_
      refine sp pM ?_
      refine sp pMa ?_
      refine oNil ?_
      refine aRet ?_
      refine finIs rfl ?_
      obtain rfl : i = l.length := by omega
      rw [take_all (by omega)] at hv
      rw [hv]
      rfl
end A
end Go.Proofs.Ytmcannmjielalaa
set_option linter.unusedVariables false
set_option linter.unusedSimpArgs false
namespace Go.Proofs.Ytmcannmjielalaa
namespace A
theorem ar_33 : arrOf Try.prog 33 = some (2, 1) := by kernel_rfl
theorem ex49_ok : arcsB none ex49 = true := by decide +kernel
theorem ex49_V {G : List Int} {V : Int} (h : Gr ex49 1 4 (List.replicate ex49.length 0) G) (hF : FlOk ex49 1 4 G V) : G = [2, 3, 2, 3] ∧ V = 5 := by
  have hG := grE_eq h 10 _ ex49_gr
  refine ⟨hG, ?_⟩
  have := hF.most (by decide)
  rw [hG] at this
  rw [← this]
  decide +kernel
theorem ex_Most : Triple Try.prog 39 [.sl 3 (ex49.map arcC), .int 1, .int 4] [] (Is (.v (.int .u64 5)) []) :=
  (fl_Most1 (l := ex49) ex49_ok (by decide) (by decide) (by decide +kernel) (by decide +kernel)).mono fun q h' ⟨G, V, hq, hh, hF, hG⟩ => ⟨by rw [hq, (ex49_V hG hF).2], hh⟩
theorem ex_Amounts : Triple Try.prog 122 [.sl 3 (ex49.map arcC), .int 1, .int 4] [] (fun q h' => ∃ (gb : Nat) (G : List Int), q = .v (slV (some gb) 4 4) ∧ h' = [.sl (some gb) 4 3 1 (G.map intA)]) :=
  fl_Amounts1 (l := ex49) ex49_ok (by decide) (by decide) (by decide +kernel) (by decide +kernel) (fun G V hF hG => by rw [(ex49_V hG hF).2]; decide)
theorem ex_Cut : Triple Try.prog 123 [.sl 3 (ex49.map arcC), .int 1, .int 4] [] (Is (.sl 1 (([1] : List Int).map intA)) []) :=
  (fl_Cut1 (l := ex49) ex49_ok (by decide) (by decide) (by decide +kernel) (by decide +kernel)).mono fun q h' ⟨G, m, hq, hh, hG, hr⟩ => ⟨by
    have e := grE_eq hG 10 _ ex49_gr
    subst e
    have e2 := rchE_eq hr _ _ ex49_rch
    subst e2
    rw [hq]
    rw [show sortI (mKeys [((1 : Int), ((-1 : Int), false))]) = [1] by decide +kernel], hh⟩
theorem fl_Most {l : List Arc} {fr to_ : Int} (hok : arcsB none l = true) (hll : l.length ≤ 1000000) : Triple Try.prog 39 [.sl 3 (l.map arcC), .int fr, .int to_] [] (fun q h' => ∃ V : Int, q = .v (.int .u64 V) ∧ h' = [] ∧ ∀ ns : List Int, ns.contains fr = true → ns.contains to_ = false → V ≤ holdF l ns) := by
  by_cases h : fr ≠ to_ ∧ (nodesM l).contains fr = true ∧ (nodesM l).contains to_ = true
  · exact (fl_Most1 (l := l) hok hll h.1 h.2.1 h.2.2).mono fun q h' ⟨G, V, hq, hh, hF, hG⟩ => ⟨V, hq, hh, fun ns h1 h2 => hF.cut h1 h2⟩
  · exact (fl_Most0 (l := l) hok hll h).mono fun q h' ⟨hq, hh⟩ => ⟨0, hq, hh, fun ns h1 h2 => (holdF_rng (arcs_ok hok)).1⟩
/- waymarklaw49.awake -/
set_option maxRecDepth 100000 in
set_option maxHeartbeats 2000000 in
theorem law49_awake  : Triple Try.prog 38 [] [] (Is (.v (.bool true)) []) := by
  refine triple_of Try.func38 rfl (by kernel_rfl) rfl (by simp) ?_
  refine aSeq ?_
  refine aReg ?_
  refine sp pMa ?_
  refine oNil ?_
  refine aSeq ?_
  refine aReg ?_
  refine sp (pBuild rfl st_36 ze_36 rfl rfl rfl rfl) ?_
  refine sp (pBuild rfl st_36 ze_36 rfl rfl rfl rfl) ?_
  refine sp (pBuild rfl st_36 ze_36 rfl rfl rfl rfl) ?_
  refine sp (pBuild rfl st_36 ze_36 rfl rfl rfl rfl) ?_
  refine sq ?_
  refine qLit (l := [_, _, _, _]) rfl rfl (by decide) us_22 ty_36 ze_36 rfl (by decide) (by decide) rfl rfl rfl (fun b6 => ?_)
  refine sp pMa ?_
  refine oNil ?_
  refine aSeq ?_
  refine aReg ?_
  refine oWeak (weak_settle (k := 1) (es := ex49.map arcC) rfl .hd rfl) ?_
  refine sp pM ?_
  refine sq ?_
  refine cv rfl rfl rfl (lents_refl _) ex_Most ?_
  refine sp pB ?_
  refine sp pM ?_
  refine gp pM ?_
  refine ga ?_
  refine ca rfl rfl rfl ex_Amounts ?_
  rintro _ _ ⟨gb, G, rfl, rfl⟩
  refine gp (by first | exact pLm sl_25 | exact pLs sl_25 | exact pLv sl_25) ?_
  refine gp pB ?_
  refine sp pK ?_
  refine sp pM ?_
  refine gp pM ?_
  refine ga ?_
  refine (ci rfl rfl rfl ex_Cut ?_).op
  refine gp (by first | exact pLm sl_25 | exact pLs sl_25 | exact pLv sl_25) ?_
  refine gp pB ?_
  refine sp pK ?_
  refine sp pMa ?_
  refine oNil ?_
  refine aRet ?_
  refine finIs rfl ?_
  rfl
/- waymarklaw49.FlowCuts -/
set_option maxRecDepth 100000 in
set_option maxHeartbeats 2000000 in
theorem law49_FlowCuts {l : List Arc} {a b : Int} {ns : List Int} (hll : l.length ≤ 9223372036854775807) (hnl : ns.length ≤ 9223372036854775807) : Triple Try.prog 4 [.sl 3 (l.map arcC), .agg [.int a, .int b], .sl 1 (ns.map intA)] [] (Is (.v (.bool true)) []) := by
  refine triple_of Try.func4 rfl (by kernel_rfl) rfl (by simp) ?_
  refine aSeq ?_
  refine aReg ?_
  refine sq ?_
  refine qBox rfl rfl (by decide) rfl rfl (fun b4 => ?_)
  refine sp pMa ?_
  refine oNil ?_
  refine aSeq ?_
  refine aSeq ?_
  refine aReg ?_
  refine sp pM ?_
  refine sp (by first | exact pLm sl_22 | exact pLs sl_22) ?_
  refine sp pB ?_
  refine sp pM ?_
  refine oSplitDec 11 rfl (fun c11 => ?_) (fun c11 => ?_)
  · skip
    refine gf ?_
    refine gf ?_
    refine gf ?_
    refine sp pK ?_
    refine sp pM ?_
    refine gf ?_
    refine gf ?_
    refine gf ?_
    refine sp pK ?_
    refine sp pM ?_
    refine gf ?_
    refine gf ?_
    refine gf ?_
    refine gf ?_
    refine gf ?_
    refine sp pK ?_
    refine sp pM ?_
    refine gf ?_
    refine gf ?_
    refine gf ?_
    refine gf ?_
    refine sp pK ?_
    refine oNil ?_
    refine aCondT rfl ?_
    refine aSeq ?_
    refine aReg ?_
    refine sq ?_
    refine cv rfl rfl rfl (lents_refl _) law49_awake ?_
    refine sp pMa ?_
    refine oNil ?_
    refine aRet ?_
    refine finIs rfl ?_
    rfl
  · skip
    refine gp pM ?_
    refine gp (by first | exact pLm sl_25 | exact pLs sl_25) ?_
    refine gp pB ?_
    refine sp pK ?_
    refine sp pM ?_
    refine oSplitDec 16 rfl (fun c16 => ?_) (fun c16 => ?_)
    · skip
      refine gf ?_
      refine gf ?_
      refine gf ?_
      refine sp pK ?_
      refine sp pM ?_
      refine gf ?_
      refine gf ?_
      refine gf ?_
      refine gf ?_
      refine gf ?_
      refine sp pK ?_
      refine sp pM ?_
      refine gf ?_
      refine gf ?_
      refine gf ?_
      refine gf ?_
      refine sp pK ?_
      refine oNil ?_
      refine aCondT rfl ?_
      refine aSeq ?_
      refine aReg ?_
      refine sq ?_
      refine cv rfl rfl rfl (lents_refl _) law49_awake ?_
      refine sp pMa ?_
      refine oNil ?_
      refine aRet ?_
      refine finIs rfl ?_
      rfl
    · skip
      refine gp pM ?_
      refine ga ?_
      refine (cv rfl rfl rfl (lents_refl _) (ref24_May (by omega)) ?_).op
      refine gp pNo ?_
      refine sp pK ?_
      refine sp pM ?_
      refine oSplitNot 21 rfl (fun c21 => ?_) (fun c21 => ?_)
      · skip
        refine gf ?_
        refine gf ?_
        refine gf ?_
        refine gf ?_
        refine gf ?_
        refine sp pK ?_
        refine sp pM ?_
        refine gf ?_
        refine gf ?_
        refine gf ?_
        refine gf ?_
        refine sp pK ?_
        refine oNil ?_
        refine aCondT rfl ?_
        refine aSeq ?_
        refine aReg ?_
        refine sq ?_
        refine cv rfl rfl rfl (lents_refl _) law49_awake ?_
        refine sp pMa ?_
        refine oNil ?_
        refine aRet ?_
        refine finIs rfl ?_
        rfl
      · skip
        refine gp pM ?_
        refine gp (pIa ar_33) ?_
        refine gr (by first | exact rAr ty_3 | exact rArL ty_3 | exact rArR2 ty_3 | exact rB1 ty_3) ?_
        refine ga ?_
        refine (cv rfl rfl rfl (lents_refl _) (ref27_Has (l := ns) (n := a) (by omega)) ?_).op
        refine gp pNo ?_
        refine sp pK ?_
        refine sp pM ?_
        refine oSplitNot 28 rfl (fun c28 => ?_) (fun c28 => ?_)
        · skip
          refine gf ?_
          refine gf ?_
          refine gf ?_
          refine gf ?_
          refine sp pK ?_
          refine oNil ?_
          refine aCondT rfl ?_
          refine aSeq ?_
          refine aReg ?_
          refine sq ?_
          refine cv rfl rfl rfl (lents_refl _) law49_awake ?_
          refine sp pMa ?_
          refine oNil ?_
          refine aRet ?_
          refine finIs rfl ?_
          rfl
        · skip
          refine gp pM ?_
          refine gp (pIa ar_33) ?_
          refine gr (by first | exact rAr ty_3 | exact rArL ty_3 | exact rArR2 ty_3 | exact rB1 ty_3) ?_
          refine ga ?_
          refine (cv rfl rfl rfl (lents_refl _) (ref27_Has (l := ns) (n := b) (by omega)) ?_).op
          refine sp pK ?_
          refine oNil ?_
          refine aCond rfl (fun c33 => ?_) (fun c33 => ?_)
          · skip
            refine aSeq ?_
            refine aReg ?_
            refine sq ?_
            refine cv rfl rfl rfl (lents_refl _) law49_awake ?_
            refine sp pMa ?_
            refine oNil ?_
            refine aRet ?_
            refine finIs rfl ?_
            rfl
          · skip
            refine aSkip ?_
            refine aSeq ?_
            refine aSeq ?_
            have hok : arcsB none l = true := by simp_all
            have hca : ns.contains a = true := by simp_all
            have hcb : ns.contains b = false := by simp_all
            refine aReg ?_
            refine sp pMa ?_
            refine oNil ?_
            refine aBlock ?_
            refine loopF (α := Nat) (kept := [(0, _), (2, _), (4, _)]) (fun i => i ≤ l.length) (fun i => [(7, .int i)]) (fun i => []) (fun i => l.length - i) 0 ?_ ⟨gInt rfl (by first | rfl | omega | simp), rfl, rfl, rfl, trivial⟩ (by repeat constructor) ?_
            · skip
              omega
            · rintro i hi
              refine aSeq ?_
              refine aSeq ?_
              refine aReg ?_
              refine sp pM ?_
              refine sp pM ?_
              refine sp (by first | exact pLm sl_22 | exact pLs sl_22) ?_
              refine sp pB ?_
              refine oNil ?_
              refine aCondDec rfl (fun c38 => ?_) (fun c38 => ?_)
              · skip
                refine aSkip ?_
                refine aSeq ?_
                refine aBlock ?_
                refine aSeq ?_
                obtain ⟨x, hx⟩ : ∃ z, l[i]? = some z := ⟨_, List.getElem?_eq_getElem (by omega)⟩
                refine aReg ?_
                refine sp pM ?_
                refine sp pM ?_
                first | refine sp (pIx es_22) ?_ | (refine obtSN 41 42 rfl rfl (by omega) (fun x43 hx43 => ?_); refine sp (pIs es_22 hx43) ?_) | (refine obtS 41 42 rfl rfl (by omega) (by omega) (fun x43 hx43 => ?_); refine sp (pIs es_22 hx43) ?_) | refine sp (pIo es_22) ?_
                refine sp (pFs fd_36_2) ?_
                refine sr (rS1 ty_3) ?_
                refine sp pB ?_
                refine oNil ?_
                refine aCondDec rfl (fun c46 => ?_) (fun c46 => ?_)
                · skip
                  refine aSeq ?_
                  refine aReg ?_
                  refine sq ?_
                  refine cv rfl rfl rfl (lents_refl _) law49_awake ?_
                  refine sp pMa ?_
                  refine oNil ?_
                  refine aRet ?_
                  refine finIs rfl ?_
                  rfl
                · skip
                  refine aSkip ?_
                  refine aReg ?_
                  refine sp pM ?_
                  refine sp pAd ?_
                  refine sp pMa ?_
                  refine oNil ?_
                  refine ⟨i + 1, ?_, by (try dsimp only); omega, ⟨gInt rfl (by first | rfl | omega | simp), rfl, rfl, rfl, trivial⟩, _, (by repeat constructor)⟩
                  omega
              · skip
                refine aExit rfl ?_
                refine aSeq ?_
                refine aReg ?_
                refine sp pM ?_
                refine sp (pIa ar_33) ?_
                refine sr (by first | exact rAr ty_3 | exact rArL ty_3 | exact rArR2 ty_3 | exact rB1 ty_3) ?_
                refine sp (pIa ar_33) ?_
                refine sr (by first | exact rAr ty_3 | exact rArL ty_3 | exact rArR2 ty_3 | exact rB1 ty_3) ?_
                refine sa ?_
                refine ca rfl rfl rfl (fl_Most (l := l) hok (by omega)) ?_
                rintro _ _ ⟨V, rfl, rfl, hcut⟩
                have hvc := hcut ns hca hcb
                refine sp pM ?_
                refine sp pM ?_
                refine sq ?_
                refine cv rfl rfl rfl (lents_refl _) (ref49_Holds (l := l) (ns := ns) (arcs_ok hok) (by omega) (by omega)) ?_
                refine sp (pBl (by exact pB) (show _ = true from decide_eq_true hvc)) ?_
                refine sp pM ?_
                refine ga ?_
                refine (cv rfl rfl rfl (lents_refl _) law49_awake ?_).op
                refine sp pK ?_
                refine sp pMa ?_
                refine oNil ?_
                refine aRet ?_
                refine finIs rfl ?_
                rfl
end A
end Go.Proofs.Ytmcannmjielalaa
namespace Go.Proofs.Ytmcannmjielalaa.flowCuts
open Go.ChangeShapes Go.WideShapes Go.ChangeAt Go.RowKit Go.Proofs.Ytmcannmjielalaa.A
open Go.ChangeMaps (open_string shut_string)
set_option linter.unusedVariables false
theorem own : ownKnob Try.prog.godebug = none := by kernel_rfl
theorem laidOut : laidOutB Try.prog = true := A.laidAll
theorem fInPlace : (Rows.flowCutsRow.inPlace == Try.prog.inPlace 4) = true := by kernel_rfl
theorem fUnfollowed : (Rows.flowCutsRow.unfollowed == Try.prog.unfollowed 4) = true := by kernel_rfl
theorem fRecurses : (Rows.flowCutsRow.recurses == Try.prog.recurses 4) = true := by kernel_rfl
theorem fNamed : (Rows.flowCutsRow.named == Try.prog.varsNamed 4) = true := by kernel_rfl
theorem closed : joinedFacts Try.prog 4 Try.f4 Rows.flowCutsSpec Rows.flowCutsRow = true := by
  unfold joinedFacts
  simp only [Bool.and_eq_true]
  refine ⟨⟨⟨⟨⟨⟨⟨⟨⟨⟨⟨⟨⟨⟨⟨⟨⟨⟨⟨⟨⟨⟨⟨⟨⟨⟨⟨⟨⟨⟨⟨?_, A.laidAll⟩, A.mapsAll⟩, ?_⟩, ?_⟩, ?_⟩, ?_⟩, ?_⟩, ?_⟩, fInPlace⟩, fUnfollowed⟩, fRecurses⟩, fNamed⟩, ?_⟩, ?_⟩, ?_⟩, ?_⟩, ?_⟩, ?_⟩, ?_⟩, ?_⟩, ?_⟩, ?_⟩, ?_⟩, A.stopsAll⟩, A.mayE⟩, by rw [A.lifF]; kernel_rfl⟩, by rw [A.mkC]; kernel_rfl⟩, ?_⟩, ?_⟩, ?_⟩, ?_⟩
  all_goals kernel_rfl
set_option maxRecDepth 100000 in
theorem lifted (os : Os) (started : os.Started) (H : Type) (enc : TypeId × Value → H) :
    ReturnsInHanded {} Try.checked os 4 .any (Rows.flowCutsSpec.pre6 enc Try.prog Try.f4 Rows.flowCutsRow.domain false) (Rows.flowCutsSpec.post enc Try.prog Try.f4 false true false false) := by
  refine returnsInHanded_of_change_sized (C := Try.checked) own started (by kernel_rfl) Try.func4
    (ChangeSpec.witness6 (enc := enc) (C := Try.checked) false ⟨#[], #[.slice none 0 0, .agg #[.int .i64 0, .int .i64 0], .slice none 0 0], []⟩ 8 (by kernel_rfl) (by kernel_rfl) (by kernel_rfl) (by kernel_rfl)) ?_
  intro W base args ds gs before hval0 hW hcnd hsz0 _
  have hval : ∀ (j : Nat) t v, Try.f4.params[j]? = some t → args[j]? = some v → Value.okWide Try.prog W .any base t v := hval0
  have hW' := hW
  obtain ⟨p, q, hA0, hV, rfl, hfz, hnd⟩ := hW
  have hA : DataW.TrodAll enc Try.prog W 0 (fun _ => true) true Try.f4.params.toList args.toList ds p := hA0
  rw [Try.params4] at hA hval
  obtain ⟨v0, vs0, d0, ds0, p0, q0, hargs, rfl, rfl, h0, r0⟩ := trodAll_cons hA
  obtain ⟨v1, vs1, d1, ds1, p1, q1, rfl, rfl, rfl, h1, r1⟩ := trodAll_cons r0
  obtain ⟨v2, vs2, d2, ds2, p2, q2, rfl, rfl, rfl, h2, r2⟩ := trodAll_cons r1
  obtain ⟨rfl, rfl, rfl⟩ := trodAll_nil r2
  obtain rfl : args = #[v0, v1, v2] := by cases args; simp_all
  obtain ⟨rfl, rfl⟩ := trodVars_none hV
  have k0 := h0
  have lt0 : ∀ x ∈ p0, x.block < W.heap.size := by obtain ⟨m, hm⟩ := k0; exact DataW.trod_lt m _ _ _ hm
  have one0 : v0.oneCell' = true := by obtain ⟨_, _, _, rfl⟩ := okWide_slice Try.underlying22 (hval 0 22 v0 rfl rfl); rfl
  obtain ⟨a0, w0, rep0⟩ := argOne (opSlice Try.underlying22 (by kernel_rfl) (by decide) op_Arc) one0 h0
  have k1 := h1
  have lt1 : ∀ x ∈ p1, x.block < W.heap.size := by obtain ⟨m, hm⟩ := k1; exact DataW.trod_lt m _ _ _ hm
  obtain ⟨cs1, rfl⟩ := okWide_aggA Try.underlying33 (hval 1 33 v1 rfl rfl)
  obtain ⟨a1, w1, rep1⟩ := argAgg op_n2 h1
  have k2 := h2
  have lt2 : ∀ x ∈ p2, x.block < W.heap.size := by obtain ⟨m, hm⟩ := k2; exact DataW.trod_lt m _ _ _ hm
  have one2 : v2.oneCell' = true := by obtain ⟨_, _, _, rfl⟩ := okWide_slice Try.underlying25 (hval 2 25 v2 rfl rfl); rfl
  obtain ⟨a2, w2, rep2⟩ := argOne (opSlice Try.underlying25 (by kernel_rfl) (by decide) (opInt Try.underlying3)) one2 h2
  refine (law_calls (law49_FlowCuts (l := a0) (a := a1.1) (b := a1.2) (ns := a2) w0.2 w2.2) (reps_cons rep0 (reps_cons rep1 (reps_cons rep2 reps_nil)))).mono fun e W' ⟨he, bel⟩ => ?_
  subst he
  exact ⟨_, rfl, _, _, _, [], _, [], hW', trodAll_mk1 (shut_bool Try.underlying4 _), (trodAll_cons_mk (Below.trod laidOut (by kernel_rfl) (of_decide_eq_true (by kernel_rfl)) k0 bel lt0) (trodAll_cons_mk (Below.trod laidOut (by kernel_rfl) (of_decide_eq_true (by kernel_rfl)) k1 bel lt1) (trodAll_cons_mk (Below.trod laidOut (by kernel_rfl) (of_decide_eq_true (by kernel_rfl)) k2 bel lt2) trodAll_mk0))), rfl, bel.frame _, fun h => by cases h⟩
theorem over : Rows.flowCutsRow.holds Try.pinned (OpenSpec.ofChange Rows.flowCutsSpec) :=
  OpenClaim.holds_of_wide 4 Try.f4 rfl rfl rfl rfl rfl rfl rfl ⟨rfl, rfl, rfl, rfl, rfl⟩ rfl rfl rfl rfl rfl (by kernel_rfl) Try.func4 closed
    (of_decide_eq_true (by kernel_rfl)) (by unfold Func.isWrapper; first | (rw [if_pos (by decide +kernel)]; kernel_rfl) | (rw [if_neg (by decide +kernel)]; exact ⟨rfl, rfl⟩))
    (fun os started H enc _ => lifted os started H enc)
theorem proved : Rows.FlowCutsSaid := over
#print axioms proved
end Go.Proofs.Ytmcannmjielalaa.flowCuts
