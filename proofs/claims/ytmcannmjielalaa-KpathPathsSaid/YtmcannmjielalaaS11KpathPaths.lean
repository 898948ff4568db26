/- Texts that KpathPaths's proof rests on, part 12. -/
import Derived.KernelRfl
import Derived.Test.YtmcannmjielalaaProg
import Derived.Test.YtmcannmjielalaaS10KpathPaths
set_option linter.unusedVariables false
set_option linter.unusedSimpArgs false
namespace Go.Proofs.Ytmcannmjielalaa
namespace A
theorem es_22 : elemSize Try.prog 22 = some 3 := by kernel_rfl
theorem es_25 : elemSize Try.prog 25 = some 1 := by kernel_rfl
theorem fd_36_0 : fieldOf Try.prog 36 0 = some (0, 1, false) := by kernel_rfl
theorem fd_36_1 : fieldOf Try.prog 36 1 = some (1, 1, false) := by kernel_rfl
theorem fd_36_2 : fieldOf Try.prog 36 2 = some (2, 1, false) := by kernel_rfl
theorem sl_22 : isSl Try.prog 22 = true := by kernel_rfl
theorem sl_25 : isSl Try.prog 25 = true := by kernel_rfl
theorem ty_3 : tyOf Try.prog 3 = some (1, false) := by kernel_rfl
theorem ty_36 : tyOf Try.prog 36 = some (3, true) := by kernel_rfl
theorem us_25 : Try.prog.underlying 25 = some (.slice 3) := by kernel_rfl
theorem ze_3 : zeroOf Try.prog 3 = some (.int .i64 0) := by kernel_rfl
theorem ze_36 : zeroOf Try.prog 36 = some (.agg #[.int .i64 0, .int .i64 0, .int .i64 0]) := by kernel_rfl
def cmpI (a b : Int) : Int := if a < b then -1 else if b < a then 1 else 0
def orI : List Int → Int
  | [] => 0
  | a :: l => if a ≠ 0 then a else orI l
theorem orI_drop {xs : List Int} {i : Nat} {a : Int} (h : xs[i]? = some a) : orI (xs.drop i) = if a ≠ 0 then a else orI (xs.drop (i + 1)) := by
  rw [drop_step h]
  rfl
/- cmp.isNaN[int] -/
set_option maxRecDepth 100000 in
set_option maxHeartbeats 400000 in
theorem cmp_isNaN {n : Int} : Triple Try.prog 246 [.int n] [] (Is (.v (.bool false)) []) := by
  refine triple_of Try.func246 rfl (by kernel_rfl) rfl (by simp) ?_
  refine aSeq ?_
  refine aReg ?_
  refine sp pMa ?_
  refine oNil ?_
  refine aSeq ?_
  refine aReg ?_
  refine sp pM ?_
  refine sp pM ?_
  refine sp pB ?_
  refine sp pMa ?_
  refine oNil ?_
  refine aRet ?_
  refine finIs rfl ?_
  simp [retOf]
/- cmp.Compare[int] -/
set_option maxRecDepth 100000 in
set_option maxHeartbeats 400000 in
theorem cmp_Compare {a b : Int} : Triple Try.prog 174 [.int a, .int b] [] (Is (.v (.int .i64 (cmpI a b))) []) := by
  refine triple_of Try.func174 rfl (by kernel_rfl) rfl (by simp) ?_
  refine aSeq ?_
  refine aReg ?_
  refine sp pMa ?_
  refine oNil ?_
  refine aSeq ?_
  refine aReg ?_
  refine sp pM ?_
  refine sq ?_
  refine cv rfl rfl rfl (lents_refl _) cmp_isNaN ?_
  refine sp pMa ?_
  refine oNil ?_
  refine aSeq ?_
  refine aReg ?_
  refine sp pM ?_
  refine sq ?_
  refine cv rfl rfl rfl (lents_refl _) cmp_isNaN ?_
  refine sp pMa ?_
  refine oNil ?_
  refine aSeq ?_
  refine aSeq ?_
  refine aReg ?_
  refine sp pM ?_
  refine oNil ?_
  refine aCond rfl (fun c11 => ?_) (fun c11 => ?_)
  · skip
    refine aSeq ?_
    refine aSeq ?_
    refine aReg ?_
    refine sp pM ?_
    refine oNil ?_
    refine aCond rfl (fun c12 => ?_) (fun c12 => ?_)
    · skip
      refine aSeq ?_
      refine aReg ?_
      refine sp pMa ?_
      refine oNil ?_
      refine aRet ?_
      refine finIs rfl ?_
      simp_all [retOf, cmpI] <;> omega
    · skip
      refine aSkip ?_
      refine aSeq ?_
      refine aReg ?_
      refine sp pMa ?_
      refine oNil ?_
      refine aRet ?_
      refine finIs rfl ?_
      simp_all [retOf, cmpI] <;> omega
  · skip
    refine aSkip ?_
    refine aSeq ?_
    refine aSeq ?_
    refine aReg ?_
    refine sp pM ?_
    refine oNil ?_
    refine aCond rfl (fun c13 => ?_) (fun c13 => ?_)
    · skip
      refine aSeq ?_
      refine aReg ?_
      refine sp pMa ?_
      refine oNil ?_
      refine aRet ?_
      refine finIs rfl ?_
      simp_all [retOf, cmpI] <;> omega
    · skip
      refine aSkip ?_
      refine aSeq ?_
      refine aSeq ?_
      refine aReg ?_
      refine sp pM ?_
      refine sp pM ?_
      refine sp pB ?_
      refine oNil ?_
      refine aCondDec rfl (fun c16 => ?_) (fun c16 => ?_)
      · skip
        refine aSeq ?_
        refine aReg ?_
        refine sp pMa ?_
        refine oNil ?_
        refine aRet ?_
        refine finIs rfl ?_
        simp_all [retOf, cmpI] <;> omega
      · skip
        refine aSkip ?_
        refine aSeq ?_
        refine aSeq ?_
        refine aReg ?_
        refine sp pM ?_
        refine sp pM ?_
        refine sp pB ?_
        refine oNil ?_
        refine aCondDec rfl (fun c19 => ?_) (fun c19 => ?_)
        · skip
          refine aSeq ?_
          refine aReg ?_
          refine sp pMa ?_
          refine oNil ?_
          refine aRet ?_
          refine finIs rfl ?_
          simp_all [retOf, cmpI] <;> omega
        · skip
          refine aSkip ?_
          refine aSeq ?_
          refine aReg ?_
          refine sp pMa ?_
          refine oNil ?_
          refine aRet ?_
          refine finIs rfl ?_
          simp_all [retOf, cmpI] <;> omega
/- cmp.Or[int] -/
set_option maxRecDepth 100000 in
set_option maxHeartbeats 400000 in
theorem cmp_Or (xs : List Int) (hx : xs.length ≤ 1000 := by simp) : Triple Try.prog 173 [.sl 1 (xs.map intA)] [] (Is (.v (.int .i64 (orI xs))) []) := by
  refine triple_of Try.func173 rfl (by kernel_rfl) rfl (by simp) ?_
  refine aSeq ?_
  refine aReg ?_
  refine sp pMa ?_
  refine oNil ?_
  refine aSeq ?_
  refine aReg ?_
  refine sp pMa ?_
  refine oNil ?_
  refine aSeq ?_
  refine aSeq ?_
  refine aReg ?_
  refine sp pM ?_
  refine sp (by first | exact pLm sl_25 | exact pLs sl_25) ?_
  refine sp pM ?_
  refine oNil ?_
  refine aBlock ?_
  refine loopF (α := Nat) (kept := [(3, _), (6, _), (7, _)]) (fun i => i ≤ xs.length ∧ orI (xs.drop i) = orI xs) (fun i => [(8, .int i)]) (fun i => []) (fun i => xs.length - i) 0 ?_ ⟨gInt rfl (by first | rfl | omega | simp), rfl, rfl, rfl, trivial⟩ (by repeat constructor) ?_
  · skip
    exact ⟨by omega, rfl⟩
  · rintro i ⟨hi, ho⟩
    refine aSeq ?_
    refine aReg ?_
    refine sp pB ?_
    refine oNil ?_
    refine aSeq ?_
    refine aCondDec rfl (fun c9 => ?_) (fun c9 => ?_)
    · skip
      refine aSkip ?_
      refine aSeq ?_
      refine aBlock ?_
      refine aSeq ?_
      refine aReg ?_
      first | refine sp (pIx es_25) ?_ | (refine obtSN 6 8 rfl rfl (by omega) (fun x10 hx10 => ?_); refine sp (pIs es_25 hx10) ?_) | (refine obtS 6 8 rfl rfl (by omega) (by omega) (fun x10 hx10 => ?_); refine sp (pIs es_25 hx10) ?_) | refine sp (pIo es_25) ?_
      refine sr (rS1 ty_3) ?_
      refine sp pMa ?_
      refine oNil ?_
      refine aSeq ?_
      refine aReg ?_
      refine sp pM ?_
      refine sp pM ?_
      refine sp pB ?_
      refine oNil ?_
      refine aCondNe rfl (fun c14 => ?_) (fun c14 => ?_)
      · skip
        refine aSeq ?_
        refine aReg ?_
        refine sp pM ?_
        refine sp pMa ?_
        refine oNil ?_
        refine aRet ?_
        refine finIs rfl ?_
        show AV.int _ = AV.int _
        congr 2
        first | (rw [← ho, orI_drop hx10, if_pos (by assumption)]; done) | (rw [← ho, List.drop_of_length_le (by omega)]; rfl)
      · skip
        refine aSkip ?_
        refine aReg ?_
        refine sp pAd ?_
        refine sp pM ?_
        refine oNil ?_
        refine ⟨i + 1, ?_, by (try dsimp only); omega, ⟨gInt rfl (by first | rfl | omega | simp), rfl, rfl, rfl, trivial⟩, _, (by repeat constructor)⟩
        exact ⟨by omega, by rw [← ho, orI_drop hx10]; simp_all⟩
    · skip
      refine aExit rfl ?_
      refine aSeq ?_
      refine aReg ?_
      refine sp pM ?_
      refine sp pMa ?_
      refine oNil ?_
      refine aRet ?_
      refine finIs rfl ?_
      show AV.int _ = AV.int _
      congr 2
      first | (rw [← ho, orI_drop hx10, if_pos (by assumption)]; done) | (rw [← ho, List.drop_of_length_le (by omega)]; rfl)
structure Arc where
  f : Int
  t : Int
  c : Int
  deriving DecidableEq, Inhabited
def arcC (a : Arc) : List AV := [.int a.f, .int a.t, .int a.c]
def nodeB (n : Int) : Bool := decide (1 ≤ n) && decide (n ≤ 64)
def arcB (a : Arc) : Bool := nodeB a.f && nodeB a.t && !(a.f == a.t) && decide (1 ≤ a.c) && decide (a.c ≤ 1073741824)
def ltA (x y : Arc) : Prop := x.f < y.f ∨ x.f = y.f ∧ x.t < y.t
instance (x y : Arc) : Decidable (ltA x y) := by unfold ltA; infer_instance
/-- Arcs from a place on, behind the one ahead of it. -/
def arcsB : Option Arc → List Arc → Bool
  | _, [] => true
  | p, a :: l => arcB a && (match p with | none => true | some q => decide (ltA q a)) && arcsB (some a) l
def orderA (a b : Arc) : Int := orI [cmpI a.f b.f, cmpI a.t b.t]
theorem cmpI_ne {a b : Int} : cmpI a b ≠ 0 ↔ a ≠ b := by unfold cmpI; split <;> (try split) <;> omega
theorem cmpI_lt {a b : Int} : cmpI a b < 0 ↔ a < b := by unfold cmpI; split <;> (try split) <;> omega
theorem orderA_lt {a b : Arc} : orderA a b < 0 ↔ ltA a b := by
  simp only [orderA, orI, ltA]
  have h1 := cmpI_ne (a := a.f) (b := b.f)
  have h2 := cmpI_lt (a := a.f) (b := b.f)
  have h3 := cmpI_ne (a := a.t) (b := b.t)
  have h4 := cmpI_lt (a := a.t) (b := b.t)
  split
  · omega
  · split <;> omega
def ordA (p : Option Arc) (e : Arc) : Bool := match p with | none => true | some q => decide (orderA q e < 0)
theorem arcs_step {l : List Arc} {i : Nat} {e : Arc} {p : Option Arc} (h : l[i]? = some e) : arcsB p (l.drop i) = (arcB e && ordA p e && arcsB (some e) (l.drop (i + 1))) := by
  rw [drop_step h]
  cases p with
  | none => rfl
  | some q => simp only [arcsB, ordA, orderA_lt]
theorem arcsB_all : ∀ {l : List Arc} {p : Option Arc}, arcsB p l = true → ∀ e ∈ l, arcB e = true
  | [], _, _, e, he => by simp at he
  | x :: l, p, h, e, he => by
    simp only [arcsB, Bool.and_eq_true] at h
    rcases List.mem_cons.1 he with rfl | he
    · exact h.1.1
    · exact arcsB_all h.2 e he
theorem ltA_trans {x y z : Arc} (h1 : ltA x y) (h2 : ltA y z) : ltA x z := by unfold ltA at *; omega
theorem arcsB_lt : ∀ {l : List Arc} {q : Arc}, arcsB (some q) l = true → (q :: l).Pairwise ltA
  | [], q, _ => by simp
  | x :: l, q, h => by
    simp only [arcsB, Bool.and_eq_true, decide_eq_true_eq] at h
    have ih := arcsB_lt h.2
    refine List.pairwise_cons.2 ⟨fun y hy => ?_, ih⟩
    rcases List.mem_cons.1 hy with rfl | hy
    · exact h.1.2
    · exact ltA_trans h.1.2 ((List.pairwise_cons.1 ih).1 y hy)
theorem arcsB_sorted {l : List Arc} (h : arcsB none l = true) : l.Pairwise ltA := by
  cases l with
  | nil => exact .nil
  | cons x l =>
    simp only [arcsB, Bool.and_eq_true] at h
    exact arcsB_lt h.2
def AOk (a : Arc) : Prop := 1 ≤ a.f ∧ a.f ≤ 64 ∧ 1 ≤ a.t ∧ a.t ≤ 64 ∧ a.f ≠ a.t ∧ 1 ≤ a.c ∧ a.c ≤ 1073741824
theorem AOk.of {a : Arc} (h : arcB a = true) : AOk a := by
  simp only [arcB, nodeB, Bool.and_eq_true, decide_eq_true_eq, Bool.not_eq_true', beq_eq_false_iff_ne] at h
  unfold AOk
  omega
theorem arcs_ok {l : List Arc} (h : arcsB none l = true) : ∀ a ∈ l, AOk a := fun a ha => AOk.of (arcsB_all h a ha)
/- graph.node -/
set_option maxRecDepth 100000 in
set_option maxHeartbeats 400000 in
theorem graph_node {n : Int} : Triple Try.prog 120 [.int n] [] (Is (.v (.bool (nodeB n))) []) := by
  refine triple_of Try.func120 rfl (by kernel_rfl) rfl (by simp) ?_
  refine aSeq ?_
  refine aReg ?_
  refine sp pMa ?_
  refine oNil ?_
  refine aSeq ?_
  refine aReg ?_
  refine sp pM ?_
  refine sp pB ?_
  refine sp pM ?_
  refine oSplitDec 5 rfl (fun c5 => ?_) (fun c5 => ?_)
  · skip
    refine gp pM ?_
    refine gp pB ?_
    refine sp pK ?_
    refine sp pMa ?_
    refine oNil ?_
    refine aRet ?_
    refine finIs rfl ?_
    simp [retOf, nodeB]
    omega
  · skip
    refine gf ?_
    refine gf ?_
    refine sp pK ?_
    refine sp pMa ?_
    refine oNil ?_
    refine aRet ?_
    refine finIs rfl ?_
    simp [retOf, nodeB]
    omega
/- graph.order -/
def graph_order_r1_T : Bool × List (List Nat × List Nat) := (true, [([], []), ([0], [0]), ([], []), ([2], [2]), ([1, 3], [1, 3]), ([], []), ([5], [5]), ([], []), ([7], [7]), ([6, 8, 4], [6, 8]), ([4, 9], [4, 9]), ([10, 9], [10]), ([11, 11, 0, 1, 2, 3, 4, 5, 6, 7, 8, 9, 10, 11], [11])])
def graph_order_r1_B : List Nat := [0, 1, 0, 4, 15, 0, 32, 0, 128, 511, 1023, 2047, 4095]
theorem graph_order_r1_t : Go.Proofs.YtmcannmjielalaaW.PrintLast.rtab .any (Go.Proofs.YtmcannmjielalaaW.PrintLast.opsOf Try.f121 1) = graph_order_r1_T := by kernel_rfl
theorem graph_order_r1_b : Go.Proofs.YtmcannmjielalaaW.PrintLast.waitsOk graph_order_r1_T.2 graph_order_r1_B = true := by kernel_rfl
set_option maxRecDepth 100000 in
set_option maxHeartbeats 400000 in
theorem graph_order {a b : Arc} : Triple Try.prog 121 [.agg (arcC a), .agg (arcC b)] [] (Is (.v (.int .i64 (orderA a b))) []) := by
  refine triple_of Try.func121 rfl (by kernel_rfl) rfl (by simp) ?_
  refine aSeq ?_
  refine aReg ?_
  refine sq ?_
  refine qBox rfl rfl (by decide) rfl rfl (fun b2 => ?_)
  refine sq ?_
  refine qBox rfl rfl (by decide) rfl rfl (fun b3 => ?_)
  refine sp pMa ?_
  refine oNil ?_
  refine aSeq ?_
  refine aDrawT graph_order_r1_t graph_order_r1_b [] 13 #[false, false, false, false, false, false, false, false, false, false, false, false, false] (by kernel_rfl) rfl rfl (fun HT => ?_)
  refine dp HT 0 rfl (pFb fd_36_0) ?_
  refine dr HT 1 rfl (rB1 ty_3) ?_
  refine dp HT 2 rfl (pFb fd_36_0) ?_
  refine dr HT 3 rfl (rB1 ty_3) ?_
  refine dp HT 5 rfl (pFb fd_36_1) ?_
  refine dr HT 6 rfl (rB1 ty_3) ?_
  refine dp HT 7 rfl (pFb fd_36_1) ?_
  refine dr HT 8 rfl (rB1 ty_3) ?_
  refine dGo ?_
  refine e1 HT 4 rfl ?_
  refine cv rfl rfl rfl (lents_refl _) cmp_Compare ?_
  refine e1 HT 9 rfl ?_
  refine cv rfl rfl rfl (lents_refl _) cmp_Compare ?_
  refine e1 HT 10 rfl ?_
  refine qLit (l := [_, _]) rfl rfl (by decide) us_25 ty_3 ze_3 rfl (by decide) (by decide) rfl rfl rfl (fun b15 => ?_)
  refine e1 HT 11 rfl ?_
  refine cv rfl rfl rfl (by repeat (first | exact .nil | refine .cons (.sl (by repeat (first | exact List.mem_cons_self | apply List.mem_cons_of_mem)) (by first | rfl | simp)) ?_ | refine .cons (.same _) ?_)) (cmp_Or [cmpI a.f b.f, cmpI a.t b.t]) ?_
  refine ePure (i := 12) #[true, true, true, true, true, true, true, true, true, true, true, true, true] rfl rfl rfl (HT.any (by kernel_rfl)) (by exact pMa) (by decide) ?_
  refine eE HT ?_
  clear HT
  refine aRet ?_
  refine finIs rfl ?_
  rfl
/- graph.Check -/
def graph_Check_r4_T : Bool × List (List Nat × List Nat) := (true, [([], []), ([0], [0]), ([1], [1]), ([2], [2]), ([3, 2], [3]), ([4], [4]), ([5, 4], [4, 5]), ([6, 4, 4], [4, 6]), ([7, 4], [4, 7]), ([4, 8], [4, 8]), ([9, 7], [9]), ([10], [10]), ([11, 10], [10, 11]), ([10], [10]), ([13, 10], [10, 13]), ([12, 14, 10], [10, 12, 14]), ([10, 15], [10, 15]), ([16, 10], [16]), ([17], [17]), ([18, 17], [17, 18]), ([19, 17], [17, 19]), ([17, 20], [17, 20]), ([21, 17], [21]), ([22], [22]), ([23, 22], [22, 23]), ([24, 22], [22, 24]), ([22, 25], [22, 25]), ([26, 22], [26]), ([27], [27]), ([28, 27], [27, 28]), ([29, 27, 27], [27, 29]), ([30], [30]), ([30], [30]), ([32, 30], [30, 32]), ([31, 33, 30], [30, 31, 33]), ([34, 30], [30, 34]), ([30], [30]), ([35, 36, 30, 30], [30, 35, 36]), ([37, 30], [30, 37]), ([30, 38, 27], [27, 30, 38]), ([27, 39], [27, 39])])
def graph_Check_r4_B : List Nat := [0, 1, 3, 7, 15, 31, 63, 127, 255, 511, 1023, 2047, 4095, 2047, 10239, 32767, 65535, 131071, 262143, 524287, 1048575, 2097151, 4194303, 8388607, 16777215, 33554431, 67108863, 134217727, 268435455, 536870911, 1073741823, 2147483647, 2147483647, 6442450943, 17179869183, 34359738367, 2147483647, 137438953471, 274877906943, 549755813887, 1099511627775]
theorem graph_Check_r4_t : Go.Proofs.YtmcannmjielalaaW.PrintLast.rtab .any (Go.Proofs.YtmcannmjielalaaW.PrintLast.opsOf Try.f30 4) = graph_Check_r4_T := by kernel_rfl
theorem graph_Check_r4_b : Go.Proofs.YtmcannmjielalaaW.PrintLast.waitsOk graph_Check_r4_T.2 graph_Check_r4_B = true := by kernel_rfl
set_option maxRecDepth 100000 in
set_option maxHeartbeats 2000000 in
theorem graph_Check {l : List Arc} (hl : l.length ≤ 1000000 := by omega) : Triple Try.prog 30 [.sl 3 (l.map arcC)] [] (Is (.v (.int .i64 (if arcsB none l then 0 else 1))) []) := by
  refine triple_of Try.func30 rfl (by kernel_rfl) rfl (by simp) ?_
  refine aSeq ?_
  refine aReg ?_
  refine sp pMa ?_
  refine oNil ?_
  refine aSeq ?_
  refine aSeq ?_
  refine aReg ?_
  refine sp pM ?_
  refine sp (by first | exact pLm sl_22 | exact pLs sl_22) ?_
  refine sp pM ?_
  refine oNil ?_
  refine aBlock ?_
  refine loopF (α := Nat) (kept := [(0, _), (5, _), (6, _)]) (fun i => i ≤ l.length ∧ arcsB none l = arcsB (prevA l i) (l.drop i)) (fun i => [(7, .int i)]) (fun i => []) (fun i => l.length - i) 0 ?_ ⟨gInt rfl (by first | rfl | omega | simp), rfl, rfl, rfl, trivial⟩ (by repeat constructor) ?_
  · skip
    exact ⟨by omega, rfl⟩
  · rintro i ⟨hi, hv⟩
    refine aSeq ?_
    refine aReg ?_
    refine sp pB ?_
    refine oNil ?_
    refine aSeq ?_
    refine aCondDec rfl (fun c8 => ?_) (fun c8 => ?_)
    · skip
      refine aSkip ?_
      refine aSeq ?_
      refine aBlock ?_
      refine aSeq ?_
      refine aReg ?_
      refine sp pM ?_
      first | refine sp (pIx es_22) ?_ | (refine obtSN 5 7 rfl rfl (by omega) (fun x10 hx10 => ?_); refine sp (pIs es_22 hx10) ?_) | (refine obtS 5 7 rfl rfl (by omega) (by omega) (fun x10 hx10 => ?_); refine sp (pIs es_22 hx10) ?_) | refine sp (pIo es_22) ?_
      refine sr (by first | exact rSW ty_36 rfl | exact rSA ty_36) ?_
      refine sq ?_
      refine qAlloc rfl rfl (by decide) ze_36 rfl (fun b4 => ?_)
      refine sp pMa ?_
      refine sa ?_
      refine oStW rfl rfl rfl rfl (by repeat constructor) ty_36 ?_
      refine oNil ?_
      refine aSeq ?_
      have hprev : 0 < i → ∃ b, l[((i : Int) - 1).toNat]? = some b := fun h => ⟨_, List.getElem?_eq_getElem (by omega)⟩
      refine aDrawT graph_Check_r4_t graph_Check_r4_b [] 41 #[false, false, false, false, false, false, false, false, false, false, false, false, false, false, false, false, false, false, false, false, false, false, false, false, false, false, false, false, false, false, false, false, false, false, false, false, false, false, false, false, false] (by kernel_rfl) rfl rfl (fun HT => ?_)
      refine dp HT 0 rfl (pFb fd_36_0) ?_
      refine dr HT 1 rfl (rB1 ty_3) ?_
      refine dGo ?_
      refine e1 HT 2 rfl ?_
      refine cv rfl rfl rfl (lents_refl _) graph_node ?_
      refine ef HT 3 rfl pNo ?_
      refine ef HT 4 rfl pM ?_
      refine eSplitNot 16 rfl (fun c16 => ?_) (fun c16 => ?_)
      · skip
        refine eS HT 5 rfl ?_
        refine eS HT 6 rfl ?_
        refine eS HT 7 rfl ?_
        refine eS HT 8 rfl ?_
        refine ef HT 9 rfl pK ?_
        refine ef HT 10 rfl pM ?_
        refine eS HT 11 rfl ?_
        refine eS HT 12 rfl ?_
        refine eS HT 13 rfl ?_
        refine eS HT 14 rfl ?_
        refine eS HT 15 rfl ?_
        refine ef HT 16 rfl pK ?_
        refine ef HT 17 rfl pM ?_
        refine eS HT 18 rfl ?_
        refine eS HT 19 rfl ?_
        refine eS HT 20 rfl ?_
        refine ef HT 21 rfl pK ?_
        refine ef HT 22 rfl pM ?_
        refine eS HT 23 rfl ?_
        refine eS HT 24 rfl ?_
        refine eS HT 25 rfl ?_
        refine ef HT 26 rfl pK ?_
        refine ef HT 27 rfl pM ?_
        refine eS HT 28 rfl ?_
        refine eS HT 29 rfl ?_
        refine eS HT 30 rfl ?_
        refine eS HT 31 rfl ?_
        refine eS HT 32 rfl ?_
        refine eS HT 33 rfl ?_
        refine eS HT 34 rfl ?_
        refine eS HT 35 rfl ?_
        refine eS HT 36 rfl ?_
        refine eS HT 37 rfl ?_
        refine eS HT 38 rfl ?_
        refine eS HT 39 rfl ?_
        refine ef HT 40 rfl pK ?_
        refine eE HT ?_
        clear HT
        refine aCondT rfl ?_
        refine aSeq ?_
        refine aReg ?_
        refine sp pMa ?_
        refine oNil ?_
        refine aRet ?_
        refine finIs rfl ?_
        have hs := arcs_step (p := prevA l i) hx10
        show AV.int 1 = AV.int _
        rw [hv, hs]
        by_cases h0 : i = 0 <;> simp_all [arcB, ordA, prevA]
        all_goals (intros; omega)
      · skip
        refine epG HT 5 rfl (pFb fd_36_1) ?_
        refine erG HT 6 rfl (rB1 ty_3) ?_
        refine e1G HT 7 rfl ?_
        refine cv rfl rfl rfl (lents_refl _) graph_node ?_
        refine efG HT 8 rfl pNo ?_
        refine ef HT 9 rfl pK ?_
        refine ef HT 10 rfl pM ?_
        refine eSplitNot 22 rfl (fun c22 => ?_) (fun c22 => ?_)
        · skip
          refine eS HT 11 rfl ?_
          refine eS HT 12 rfl ?_
          refine eS HT 13 rfl ?_
          refine eS HT 14 rfl ?_
          refine eS HT 15 rfl ?_
          refine ef HT 16 rfl pK ?_
          refine ef HT 17 rfl pM ?_
          refine eS HT 18 rfl ?_
          refine eS HT 19 rfl ?_
          refine eS HT 20 rfl ?_
          refine ef HT 21 rfl pK ?_
          refine ef HT 22 rfl pM ?_
          refine eS HT 23 rfl ?_
          refine eS HT 24 rfl ?_
          refine eS HT 25 rfl ?_
          refine ef HT 26 rfl pK ?_
          refine ef HT 27 rfl pM ?_
          refine eS HT 28 rfl ?_
          refine eS HT 29 rfl ?_
          refine eS HT 30 rfl ?_
          refine eS HT 31 rfl ?_
          refine eS HT 32 rfl ?_
          refine eS HT 33 rfl ?_
          refine eS HT 34 rfl ?_
          refine eS HT 35 rfl ?_
          refine eS HT 36 rfl ?_
          refine eS HT 37 rfl ?_
          refine eS HT 38 rfl ?_
          refine eS HT 39 rfl ?_
          refine ef HT 40 rfl pK ?_
          refine eE HT ?_
          clear HT
          refine aCondT rfl ?_
          refine aSeq ?_
          refine aReg ?_
          refine sp pMa ?_
          refine oNil ?_
          refine aRet ?_
          refine finIs rfl ?_
          have hs := arcs_step (p := prevA l i) hx10
          show AV.int 1 = AV.int _
          rw [hv, hs]
          by_cases h0 : i = 0 <;> simp_all [arcB, ordA, prevA]
          all_goals (intros; omega)
        · skip
          refine epG HT 11 rfl (pFb fd_36_0) ?_
          refine erG HT 12 rfl (rB1 ty_3) ?_
          refine epG HT 13 rfl (pFb fd_36_1) ?_
          refine erG HT 14 rfl (rB1 ty_3) ?_
          refine epG HT 15 rfl pB ?_
          refine ef HT 16 rfl pK ?_
          refine ef HT 17 rfl pM ?_
          refine eSplitEq 29 rfl (fun c29 => ?_) (fun c29 => ?_)
          · skip
            refine eS HT 18 rfl ?_
            refine eS HT 19 rfl ?_
            refine eS HT 20 rfl ?_
            refine ef HT 21 rfl pK ?_
            refine ef HT 22 rfl pM ?_
            refine eS HT 23 rfl ?_
            refine eS HT 24 rfl ?_
            refine eS HT 25 rfl ?_
            refine ef HT 26 rfl pK ?_
            refine ef HT 27 rfl pM ?_
            refine eS HT 28 rfl ?_
            refine eS HT 29 rfl ?_
            refine eS HT 30 rfl ?_
            refine eS HT 31 rfl ?_
            refine eS HT 32 rfl ?_
            refine eS HT 33 rfl ?_
            refine eS HT 34 rfl ?_
            refine eS HT 35 rfl ?_
            refine eS HT 36 rfl ?_
            refine eS HT 37 rfl ?_
            refine eS HT 38 rfl ?_
            refine eS HT 39 rfl ?_
            refine ef HT 40 rfl pK ?_
            refine eE HT ?_
            clear HT
            refine aCondT rfl ?_
            refine aSeq ?_
            refine aReg ?_
            refine sp pMa ?_
            refine oNil ?_
            refine aRet ?_
            refine finIs rfl ?_
            have hs := arcs_step (p := prevA l i) hx10
            show AV.int 1 = AV.int _
            rw [hv, hs]
            by_cases h0 : i = 0 <;> simp_all [arcB, ordA, prevA]
            all_goals (intros; omega)
          · skip
            refine epG HT 18 rfl (pFb fd_36_2) ?_
            refine erG HT 19 rfl (rB1 ty_3) ?_
            refine epG HT 20 rfl pB ?_
            refine ef HT 21 rfl pK ?_
            refine ef HT 22 rfl pM ?_
            refine eSplitDec 34 rfl (fun c34 => ?_) (fun c34 => ?_)
            · skip
              refine eS HT 23 rfl ?_
              refine eS HT 24 rfl ?_
              refine eS HT 25 rfl ?_
              refine ef HT 26 rfl pK ?_
              refine ef HT 27 rfl pM ?_
              refine eS HT 28 rfl ?_
              refine eS HT 29 rfl ?_
              refine eS HT 30 rfl ?_
              refine eS HT 31 rfl ?_
              refine eS HT 32 rfl ?_
              refine eS HT 33 rfl ?_
              refine eS HT 34 rfl ?_
              refine eS HT 35 rfl ?_
              refine eS HT 36 rfl ?_
              refine eS HT 37 rfl ?_
              refine eS HT 38 rfl ?_
              refine eS HT 39 rfl ?_
              refine ef HT 40 rfl pK ?_
              refine eE HT ?_
              clear HT
              refine aCondT rfl ?_
              refine aSeq ?_
              refine aReg ?_
              refine sp pMa ?_
              refine oNil ?_
              refine aRet ?_
              refine finIs rfl ?_
              have hs := arcs_step (p := prevA l i) hx10
              show AV.int 1 = AV.int _
              rw [hv, hs]
              by_cases h0 : i = 0 <;> simp_all [arcB, ordA, prevA]
              all_goals (intros; omega)
            · skip
              refine epG HT 23 rfl (pFb fd_36_2) ?_
              refine erG HT 24 rfl (rB1 ty_3) ?_
              refine epG HT 25 rfl pB ?_
              refine ef HT 26 rfl pK ?_
              refine ef HT 27 rfl pM ?_
              refine eSplitDec 39 rfl (fun c39 => ?_) (fun c39 => ?_)
              · skip
                refine eS HT 28 rfl ?_
                refine eS HT 29 rfl ?_
                refine eS HT 30 rfl ?_
                refine eS HT 31 rfl ?_
                refine eS HT 32 rfl ?_
                refine eS HT 33 rfl ?_
                refine eS HT 34 rfl ?_
                refine eS HT 35 rfl ?_
                refine eS HT 36 rfl ?_
                refine eS HT 37 rfl ?_
                refine eS HT 38 rfl ?_
                refine eS HT 39 rfl ?_
                refine ef HT 40 rfl pK ?_
                refine eE HT ?_
                clear HT
                refine aCondT rfl ?_
                refine aSeq ?_
                refine aReg ?_
                refine sp pMa ?_
                refine oNil ?_
                refine aRet ?_
                refine finIs rfl ?_
                have hs := arcs_step (p := prevA l i) hx10
                show AV.int 1 = AV.int _
                rw [hv, hs]
                by_cases h0 : i = 0 <;> simp_all [arcB, ordA, prevA]
                all_goals (intros; omega)
              · skip
                refine epG HT 28 rfl pM ?_
                refine epG HT 29 rfl pB ?_
                refine epG HT 30 rfl pM ?_
                refine eSplitDec 42 rfl (fun c42 => ?_) (fun c42 => ?_)
                · skip
                  refine epG HT 31 rfl pM ?_
                  refine epG HT 32 rfl pM ?_
                  refine epG HT 33 rfl pSu ?_
                  obtain ⟨b, hb⟩ := hprev (by omega)
                  have hb' : l[i - 1]? = some b := by rw [← hb]; congr 1; omega
                  first | refine epG HT 34 rfl (pIx es_22) ?_ | (refine obtEN 43 45 rfl rfl (by omega) (fun x46 hx46 => ?_); refine epG HT 34 rfl (pIs es_22 hx46) ?_) | (refine obtE 43 45 rfl rfl (by omega) (by omega) (fun x46 hx46 => ?_); refine epG HT 34 rfl (pIs es_22 hx46) ?_) | refine epG HT 34 rfl (pIo es_22) ?_
                  refine erG HT 35 rfl (by first | exact rSW ty_36 rfl | exact rSA ty_36) ?_
                  refine erG HT 36 rfl (by first | exact rBWa ty_36 | exact rBW ty_36 | exact rBA ty_36) ?_
                  refine e1G HT 37 rfl ?_
                  refine cv rfl rfl rfl (lents_refl _) graph_order ?_
                  refine efG HT 38 rfl pB ?_
                  refine efG HT 39 rfl pK ?_
                  refine ef HT 40 rfl pK ?_
                  refine eE HT ?_
                  clear HT
                  refine aCondDec rfl (fun c52 => ?_) (fun c52 => ?_)
                  · skip
                    refine aSeq ?_
                    refine aReg ?_
                    refine sp pMa ?_
                    refine oNil ?_
                    refine aRet ?_
                    refine finIs rfl ?_
                    have hs := arcs_step (p := prevA l i) hx10
                    show AV.int 1 = AV.int _
                    rw [hv, hs]
                    by_cases h0 : i = 0 <;> simp_all [arcB, ordA, prevA]
                    all_goals (intros; omega)
                  · skip
                    refine aSkip ?_
                    refine aReg ?_
                    refine sp pAd ?_
                    refine sp pM ?_
                    refine oNil ?_
                    refine ⟨i + 1, ?_, by (try dsimp only); omega, ⟨gInt rfl (by first | rfl | omega | simp), rfl, rfl, rfl, trivial⟩, _, (by repeat constructor)⟩
                    have hs := arcs_step (p := prevA l i) hx10
                    refine ⟨by omega, ?_⟩
                    rw [hv, hs, prevA_succ hx10]
                    by_cases h0 : i = 0 <;> simp_all [arcB, ordA, prevA]
                    all_goals (intros; omega)
                · skip
                  refine eS HT 31 rfl ?_
                  refine eS HT 32 rfl ?_
                  refine eS HT 33 rfl ?_
                  refine eS HT 34 rfl ?_
                  refine eS HT 35 rfl ?_
                  refine eS HT 36 rfl ?_
                  refine eS HT 37 rfl ?_
                  refine eS HT 38 rfl ?_
                  refine efG HT 39 rfl pK ?_
                  refine ef HT 40 rfl pK ?_
                  refine eE HT ?_
                  clear HT
                  refine aCondF rfl ?_
                  refine aSkip ?_
                  refine aReg ?_
                  refine sp pAd ?_
                  refine sp pM ?_
                  refine oNil ?_
                  refine ⟨i + 1, ?_, by (try dsimp only); omega, ⟨gInt rfl (by first | rfl | omega | simp), rfl, rfl, rfl, trivial⟩, _, (by repeat constructor)⟩
                  have hs := arcs_step (p := prevA l i) hx10
                  refine ⟨by omega, ?_⟩
                  rw [hv, hs, prevA_succ hx10]
                  by_cases h0 : i = 0 <;> simp_all [arcB, ordA, prevA]
                  all_goals (intros; omega)
    · skip
      refine aExit rfl ?_
      refine aSeq ?_
      refine aReg ?_
      refine sp pMa ?_
      refine oNil ?_
      refine aRet ?_
      refine finIs rfl ?_
      show AV.int 0 = AV.int _
      rw [hv, List.drop_of_length_le (by omega)]
      rfl
/- waymarkref24.May -/
def ref24_May_r7_T : Bool × List (List Nat × List Nat) := (true, [([], []), ([0], [0]), ([1], [1]), ([2], [2]), ([2], [2]), ([4, 2], [2, 4]), ([3, 5, 2], [2, 3, 5]), ([6, 2], [2, 6]), ([7, 2], [2, 7]), ([2], [2]), ([9, 2], [2, 9]), ([8, 10, 2], [2, 8, 10]), ([11, 2, 2], [2, 11]), ([12], [12]), ([12], [12]), ([14, 12], [12, 14]), ([13, 15, 12], [12, 13, 15]), ([16, 12], [12, 16]), ([17, 12], [12, 17]), ([12], [12]), ([19, 12], [12, 19]), ([18, 20, 12], [12, 18, 20]), ([21, 12, 12], [12, 21]), ([22], [22]), ([22], [22]), ([24, 22], [22, 24]), ([23, 25, 22], [22, 23, 25]), ([26, 22], [22, 26]), ([27, 22], [22, 27]), ([22], [22]), ([29, 22], [22, 29]), ([28, 30, 22], [22, 28, 30]), ([22, 31, 12], [12, 22, 31]), ([12, 32, 2], [2, 12, 32]), ([2, 33], [2, 33])])
def ref24_May_r7_B : List Nat := [0, 1, 3, 7, 7, 23, 63, 127, 255, 7, 519, 2047, 4095, 8191, 8191, 24575, 65535, 131071, 262143, 8191, 532479, 2097151, 4194303, 8388607, 8388607, 25165823, 67108863, 134217727, 268435455, 8388607, 545259519, 2147483647, 4294967295, 8589934591, 17179869183]
theorem ref24_May_r7_t : Go.Proofs.YtmcannmjielalaaW.PrintLast.rtab .any (Go.Proofs.YtmcannmjielalaaW.PrintLast.opsOf Try.f31 7) = ref24_May_r7_T := by kernel_rfl
theorem ref24_May_r7_b : Go.Proofs.YtmcannmjielalaaW.PrintLast.waitsOk ref24_May_r7_T.2 ref24_May_r7_B = true := by kernel_rfl
set_option maxRecDepth 100000 in
set_option maxHeartbeats 2000000 in
theorem ref24_May {l : List Arc} (hl : l.length ≤ 1000000 := by omega) : Triple Try.prog 31 [.sl 3 (l.map arcC)] [] (Is (.v (.bool (arcsB none l))) []) := by
  refine triple_of Try.func31 rfl (by kernel_rfl) rfl (by simp) ?_
  refine aSeq ?_
  refine aReg ?_
  refine sp pMa ?_
  refine oNil ?_
  refine aSeq ?_
  refine aSeq ?_
  refine aReg ?_
  refine sp pMa ?_
  refine oNil ?_
  refine aBlock ?_
  refine loopF (α := Nat) (kept := [(0, _)]) (fun i => i ≤ l.length ∧ arcsB none l = arcsB (prevA l i) (l.drop i)) (fun i => [(3, .int i)]) (fun i => []) (fun i => l.length - i) 0 ?_ ⟨gInt rfl (by first | rfl | omega | simp), rfl, trivial⟩ (by repeat constructor) ?_
  · skip
    exact ⟨by omega, rfl⟩
  · rintro i ⟨hi, hv⟩
    refine aSeq ?_
    refine aSeq ?_
    refine aReg ?_
    refine sp pM ?_
    refine sp pM ?_
    refine sp (by first | exact pLm sl_22 | exact pLs sl_22) ?_
    refine sp pB ?_
    refine oNil ?_
    refine aCondDec rfl (fun c8 => ?_) (fun c8 => ?_)
    · skip
      refine aSkip ?_
      refine aSeq ?_
      refine aBlock ?_
      refine aSeq ?_
      refine aReg ?_
      refine sp pM ?_
      refine sp pM ?_
      first | refine sp (pIx es_22) ?_ | (refine obtSN 11 12 rfl rfl (by omega) (fun x13 hx13 => ?_); refine sp (pIs es_22 hx13) ?_) | (refine obtS 11 12 rfl rfl (by omega) (by omega) (fun x13 hx13 => ?_); refine sp (pIs es_22 hx13) ?_) | refine sp (pIo es_22) ?_
      refine sr (by first | exact rSW ty_36 rfl | exact rSA ty_36) ?_
      refine sq ?_
      refine qAlloc rfl rfl (by decide) ze_36 rfl (fun b4 => ?_)
      refine sa ?_
      refine oStW rfl rfl rfl rfl (by repeat constructor) ty_36 ?_
      refine oNil ?_
      refine aSeq ?_
      refine aSeq ?_
      refine aReg ?_
      refine sp (pFb fd_36_0) ?_
      refine sr (rB1 ty_3) ?_
      refine sp pB ?_
      refine sp pM ?_
      refine oSplitDec 18 rfl (fun c18 => ?_) (fun c18 => ?_)
      · skip
        refine gf ?_
        refine gf ?_
        refine gf ?_
        refine sp pK ?_
        refine sp pM ?_
        refine gf ?_
        refine gf ?_
        refine gf ?_
        refine sp pK ?_
        refine sp pM ?_
        refine gf ?_
        refine gf ?_
        refine gf ?_
        refine sp pK ?_
        refine sp pM ?_
        refine gf ?_
        refine gf ?_
        refine gf ?_
        refine gf ?_
        refine gf ?_
        refine sp pK ?_
        refine sp pM ?_
        refine gf ?_
        refine gf ?_
        refine gf ?_
        refine sp pK ?_
        refine sp pM ?_
        refine gf ?_
        refine gf ?_
        refine gf ?_
        refine sp pK ?_
        refine oNil ?_
        refine aCondT rfl ?_
        refine aSeq ?_
        refine aReg ?_
        refine sp pMa ?_
        refine oNil ?_
        refine aRet ?_
        refine finIs rfl ?_
        have hs := arcs_step (p := prevA l i) hx13
        show AV.v (.bool false) = AV.v (.bool (arcsB none l))
        rw [hv, hs]
        by_cases h0 : i = 0 <;> simp_all [arcB, nodeB, ordA, prevA, orderA_lt, ltA]
        all_goals (intros; omega)
      · skip
        refine gp (pFb fd_36_0) ?_
        refine gr (rB1 ty_3) ?_
        refine gp pB ?_
        refine sp pK ?_
        refine sp pM ?_
        refine oSplitDec 23 rfl (fun c23 => ?_) (fun c23 => ?_)
        · skip
          refine gf ?_
          refine gf ?_
          refine gf ?_
          refine sp pK ?_
          refine sp pM ?_
          refine gf ?_
          refine gf ?_
          refine gf ?_
          refine sp pK ?_
          refine sp pM ?_
          refine gf ?_
          refine gf ?_
          refine gf ?_
          refine gf ?_
          refine gf ?_
          refine sp pK ?_
          refine sp pM ?_
          refine gf ?_
          refine gf ?_
          refine gf ?_
          refine sp pK ?_
          refine sp pM ?_
          refine gf ?_
          refine gf ?_
          refine gf ?_
          refine sp pK ?_
          refine oNil ?_
          refine aCondT rfl ?_
          refine aSeq ?_
          refine aReg ?_
          refine sp pMa ?_
          refine oNil ?_
          refine aRet ?_
          refine finIs rfl ?_
          have hs := arcs_step (p := prevA l i) hx13
          show AV.v (.bool false) = AV.v (.bool (arcsB none l))
          rw [hv, hs]
          by_cases h0 : i = 0 <;> simp_all [arcB, nodeB, ordA, prevA, orderA_lt, ltA]
          all_goals (intros; omega)
        · skip
          refine gp (pFb fd_36_1) ?_
          refine gr (rB1 ty_3) ?_
          refine gp pB ?_
          refine sp pK ?_
          refine sp pM ?_
          refine oSplitDec 28 rfl (fun c28 => ?_) (fun c28 => ?_)
          · skip
            refine gf ?_
            refine gf ?_
            refine gf ?_
            refine sp pK ?_
            refine sp pM ?_
            refine gf ?_
            refine gf ?_
            refine gf ?_
            refine gf ?_
            refine gf ?_
            refine sp pK ?_
            refine sp pM ?_
            refine gf ?_
            refine gf ?_
            refine gf ?_
            refine sp pK ?_
            refine sp pM ?_
            refine gf ?_
            refine gf ?_
            refine gf ?_
            refine sp pK ?_
            refine oNil ?_
            refine aCondT rfl ?_
            refine aSeq ?_
            refine aReg ?_
            refine sp pMa ?_
            refine oNil ?_
            refine aRet ?_
            refine finIs rfl ?_
            have hs := arcs_step (p := prevA l i) hx13
            show AV.v (.bool false) = AV.v (.bool (arcsB none l))
            rw [hv, hs]
            by_cases h0 : i = 0 <;> simp_all [arcB, nodeB, ordA, prevA, orderA_lt, ltA]
            all_goals (intros; omega)
          · skip
            refine gp (pFb fd_36_1) ?_
            refine gr (rB1 ty_3) ?_
            refine gp pB ?_
            refine sp pK ?_
            refine sp pM ?_
            refine oSplitDec 33 rfl (fun c33 => ?_) (fun c33 => ?_)
            · skip
              refine gf ?_
              refine gf ?_
              refine gf ?_
              refine gf ?_
              refine gf ?_
              refine sp pK ?_
              refine sp pM ?_
              refine gf ?_
              refine gf ?_
              refine gf ?_
              refine sp pK ?_
              refine sp pM ?_
              refine gf ?_
              refine gf ?_
              refine gf ?_
              refine sp pK ?_
              refine oNil ?_
              refine aCondT rfl ?_
              refine aSeq ?_
              refine aReg ?_
              refine sp pMa ?_
              refine oNil ?_
              refine aRet ?_
              refine finIs rfl ?_
              have hs := arcs_step (p := prevA l i) hx13
              show AV.v (.bool false) = AV.v (.bool (arcsB none l))
              rw [hv, hs]
              by_cases h0 : i = 0 <;> simp_all [arcB, nodeB, ordA, prevA, orderA_lt, ltA]
              all_goals (intros; omega)
            · skip
              refine gp (pFb fd_36_0) ?_
              refine gr (rB1 ty_3) ?_
              refine gp (pFb fd_36_1) ?_
              refine gr (rB1 ty_3) ?_
              refine gp pB ?_
              refine sp pK ?_
              refine sp pM ?_
              refine oSplitEq 40 rfl (fun c40 => ?_) (fun c40 => ?_)
              · skip
                refine gf ?_
                refine gf ?_
                refine gf ?_
                refine sp pK ?_
                refine sp pM ?_
                refine gf ?_
                refine gf ?_
                refine gf ?_
                refine sp pK ?_
                refine oNil ?_
                refine aCondT rfl ?_
                refine aSeq ?_
                refine aReg ?_
                refine sp pMa ?_
                refine oNil ?_
                refine aRet ?_
                refine finIs rfl ?_
                have hs := arcs_step (p := prevA l i) hx13
                show AV.v (.bool false) = AV.v (.bool (arcsB none l))
                rw [hv, hs]
                by_cases h0 : i = 0 <;> simp_all [arcB, nodeB, ordA, prevA, orderA_lt, ltA]
                all_goals (intros; omega)
              · skip
                refine gp (pFb fd_36_2) ?_
                refine gr (rB1 ty_3) ?_
                refine gp pB ?_
                refine sp pK ?_
                refine sp pM ?_
                refine oSplitDec 45 rfl (fun c45 => ?_) (fun c45 => ?_)
                · skip
                  refine gf ?_
                  refine gf ?_
                  refine gf ?_
                  refine sp pK ?_
                  refine oNil ?_
                  refine aCondT rfl ?_
                  refine aSeq ?_
                  refine aReg ?_
                  refine sp pMa ?_
                  refine oNil ?_
                  refine aRet ?_
                  refine finIs rfl ?_
                  have hs := arcs_step (p := prevA l i) hx13
                  show AV.v (.bool false) = AV.v (.bool (arcsB none l))
                  rw [hv, hs]
                  by_cases h0 : i = 0 <;> simp_all [arcB, nodeB, ordA, prevA, orderA_lt, ltA]
                  all_goals (intros; omega)
                · skip
                  refine gp (pFb fd_36_2) ?_
                  refine gr (rB1 ty_3) ?_
                  refine gp pB ?_
                  refine sp pK ?_
                  refine oNil ?_
                  refine aCondDec rfl (fun c49 => ?_) (fun c49 => ?_)
                  · skip
                    refine aSeq ?_
                    refine aReg ?_
                    refine sp pMa ?_
                    refine oNil ?_
                    refine aRet ?_
                    refine finIs rfl ?_
                    have hs := arcs_step (p := prevA l i) hx13
                    show AV.v (.bool false) = AV.v (.bool (arcsB none l))
                    rw [hv, hs]
                    by_cases h0 : i = 0 <;> simp_all [arcB, nodeB, ordA, prevA, orderA_lt, ltA]
                    all_goals (intros; omega)
                  · skip
                    refine aSkip ?_
                    refine aSeq ?_
                    have hprev : 0 < i → ∃ b, l[((i : Int) - 1).toNat]? = some b := fun h => ⟨_, List.getElem?_eq_getElem (by omega)⟩
                    refine aDrawT ref24_May_r7_t ref24_May_r7_b [] 35 #[false, false, false, false, false, false, false, false, false, false, false, false, false, false, false, false, false, false, false, false, false, false, false, false, false, false, false, false, false, false, false, false, false, false, false] (by kernel_rfl) rfl rfl (fun HT => ?_)
                    refine dp HT 0 rfl pM ?_
                    refine dp HT 1 rfl pB ?_
                    refine dp HT 2 rfl pM ?_
                    refine dSplitDec 52 rfl (fun c52 => ?_) (fun c52 => ?_)
                    · skip
                      refine dpG HT 3 rfl pM ?_
                      refine dpG HT 4 rfl pM ?_
                      refine dpG HT 5 rfl pSu ?_
                      obtain ⟨b, hb⟩ := hprev (by omega)
                      have hb' : l[i - 1]? = some b := by rw [← hb]; congr 1; omega
                      first | refine dpG HT 6 rfl (pIx es_22) ?_ | (refine obtDN 53 55 rfl rfl (by omega) (fun x56 hx56 => ?_); refine dpG HT 6 rfl (pIs es_22 hx56) ?_) | (refine obtD 53 55 rfl rfl (by omega) (by omega) (fun x56 hx56 => ?_); refine dpG HT 6 rfl (pIs es_22 hx56) ?_) | refine dpG HT 6 rfl (pIo es_22) ?_
                      refine dpG HT 7 rfl (pFs fd_36_0) ?_
                      refine drG HT 8 rfl (rS1 ty_3) ?_
                      refine dpG HT 9 rfl (pFb fd_36_0) ?_
                      refine drG HT 10 rfl (rB1 ty_3) ?_
                      refine dpG HT 11 rfl pB ?_
                      refine dpG HT 12 rfl pM ?_
                      refine dSplitDec 62 rfl (fun c62 => ?_) (fun c62 => ?_)
                      · skip
                        refine dS HT 13 rfl ?_
                        refine dS HT 14 rfl ?_
                        refine dS HT 15 rfl ?_
                        refine dS HT 16 rfl ?_
                        refine dS HT 17 rfl ?_
                        refine dS HT 18 rfl ?_
                        refine dS HT 19 rfl ?_
                        refine dS HT 20 rfl ?_
                        refine dS HT 21 rfl ?_
                        refine dS HT 22 rfl ?_
                        refine dS HT 23 rfl ?_
                        refine dS HT 24 rfl ?_
                        refine dS HT 25 rfl ?_
                        refine dS HT 26 rfl ?_
                        refine dS HT 27 rfl ?_
                        refine dS HT 28 rfl ?_
                        refine dS HT 29 rfl ?_
                        refine dS HT 30 rfl ?_
                        refine dS HT 31 rfl ?_
                        refine dS HT 32 rfl ?_
                        refine dpG HT 33 rfl pK ?_
                        refine dp HT 34 rfl pK ?_
                        refine dE HT ?_
                        clear HT
                        refine aCondT rfl ?_
                        refine aSeq ?_
                        refine aReg ?_
                        refine sp pMa ?_
                        refine oNil ?_
                        refine aRet ?_
                        refine finIs rfl ?_
                        have hs := arcs_step (p := prevA l i) hx13
                        show AV.v (.bool false) = AV.v (.bool (arcsB none l))
                        rw [hv, hs]
                        by_cases h0 : i = 0 <;> simp_all [arcB, nodeB, ordA, prevA, orderA_lt, ltA]
                        all_goals (intros; omega)
                      · skip
                        refine dpG HT 13 rfl pM ?_
                        refine dpG HT 14 rfl pM ?_
                        refine dpG HT 15 rfl pSu ?_
                        first | refine dpG HT 16 rfl (pIx es_22) ?_ | (refine obtDN 63 65 rfl rfl (by omega) (fun x66 hx66 => ?_); refine dpG HT 16 rfl (pIs es_22 hx66) ?_) | (refine obtD 63 65 rfl rfl (by omega) (by omega) (fun x66 hx66 => ?_); refine dpG HT 16 rfl (pIs es_22 hx66) ?_) | refine dpG HT 16 rfl (pIo es_22) ?_
                        refine dpG HT 17 rfl (pFs fd_36_0) ?_
                        refine drG HT 18 rfl (rS1 ty_3) ?_
                        refine dpG HT 19 rfl (pFb fd_36_0) ?_
                        refine drG HT 20 rfl (rB1 ty_3) ?_
                        refine dpG HT 21 rfl pB ?_
                        refine dpG HT 22 rfl pM ?_
                        refine dSplitEq 72 rfl (fun c72 => ?_) (fun c72 => ?_)
                        · skip
                          refine dpG HT 23 rfl pM ?_
                          refine dpG HT 24 rfl pM ?_
                          refine dpG HT 25 rfl pSu ?_
                          first | refine dpG HT 26 rfl (pIx es_22) ?_ | (refine obtDN 73 75 rfl rfl (by omega) (fun x76 hx76 => ?_); refine dpG HT 26 rfl (pIs es_22 hx76) ?_) | (refine obtD 73 75 rfl rfl (by omega) (by omega) (fun x76 hx76 => ?_); refine dpG HT 26 rfl (pIs es_22 hx76) ?_) | refine dpG HT 26 rfl (pIo es_22) ?_
                          refine dpG HT 27 rfl (pFs fd_36_1) ?_
                          refine drG HT 28 rfl (rS1 ty_3) ?_
                          refine dpG HT 29 rfl (pFb fd_36_1) ?_
                          refine drG HT 30 rfl (rB1 ty_3) ?_
                          refine dpG HT 31 rfl pB ?_
                          refine dpG HT 32 rfl pK ?_
                          refine dpG HT 33 rfl pK ?_
                          refine dp HT 34 rfl pK ?_
                          refine dE HT ?_
                          clear HT
                          refine aCondDec rfl (fun c84 => ?_) (fun c84 => ?_)
                          · skip
                            refine aSeq ?_
                            refine aReg ?_
                            refine sp pMa ?_
                            refine oNil ?_
                            refine aRet ?_
                            refine finIs rfl ?_
                            have hs := arcs_step (p := prevA l i) hx13
                            show AV.v (.bool false) = AV.v (.bool (arcsB none l))
                            rw [hv, hs]
                            by_cases h0 : i = 0 <;> simp_all [arcB, nodeB, ordA, prevA, orderA_lt, ltA]
                            all_goals (intros; omega)
                          · skip
                            refine aSkip ?_
                            refine aReg ?_
                            refine sp pM ?_
                            refine sp pAd ?_
                            refine sp pMa ?_
                            refine oNil ?_
                            refine ⟨i + 1, ?_, by (try dsimp only); omega, ⟨gInt rfl (by first | rfl | omega | simp), rfl, trivial⟩, _, (by repeat constructor)⟩
                            have hs := arcs_step (p := prevA l i) hx13
                            refine ⟨by omega, ?_⟩
                            rw [hv, hs, prevA_succ hx13]
                            by_cases h0 : i = 0 <;> simp_all [arcB, nodeB, ordA, prevA, orderA_lt, ltA]
                            all_goals (intros; omega)
                        · skip
                          refine dS HT 23 rfl ?_
                          refine dS HT 24 rfl ?_
                          refine dS HT 25 rfl ?_
                          refine dS HT 26 rfl ?_
                          refine dS HT 27 rfl ?_
                          refine dS HT 28 rfl ?_
                          refine dS HT 29 rfl ?_
                          refine dS HT 30 rfl ?_
                          refine dS HT 31 rfl ?_
                          refine dpG HT 32 rfl pK ?_
                          refine dpG HT 33 rfl pK ?_
                          refine dp HT 34 rfl pK ?_
                          refine dE HT ?_
                          clear HT
                          refine aCondF rfl ?_
                          refine aSkip ?_
                          refine aReg ?_
                          refine sp pM ?_
                          refine sp pAd ?_
                          refine sp pMa ?_
                          refine oNil ?_
                          refine ⟨i + 1, ?_, by (try dsimp only); omega, ⟨gInt rfl (by first | rfl | omega | simp), rfl, trivial⟩, _, (by repeat constructor)⟩
                          have hs := arcs_step (p := prevA l i) hx13
                          refine ⟨by omega, ?_⟩
                          rw [hv, hs, prevA_succ hx13]
                          by_cases h0 : i = 0 <;> simp_all [arcB, nodeB, ordA, prevA, orderA_lt, ltA]
                          all_goals (intros; omega)
                    · skip
                      refine dS HT 3 rfl ?_
                      refine dS HT 4 rfl ?_
                      refine dS HT 5 rfl ?_
                      refine dS HT 6 rfl ?_
                      refine dS HT 7 rfl ?_
                      refine dS HT 8 rfl ?_
                      refine dS HT 9 rfl ?_
                      refine dS HT 10 rfl ?_
                      refine dS HT 11 rfl ?_
                      refine dS HT 12 rfl ?_
                      refine dS HT 13 rfl ?_
                      refine dS HT 14 rfl ?_
                      refine dS HT 15 rfl ?_
                      refine dS HT 16 rfl ?_
                      refine dS HT 17 rfl ?_
                      refine dS HT 18 rfl ?_
                      refine dS HT 19 rfl ?_
                      refine dS HT 20 rfl ?_
                      refine dS HT 21 rfl ?_
                      refine dS HT 22 rfl ?_
                      refine dS HT 23 rfl ?_
                      refine dS HT 24 rfl ?_
                      refine dS HT 25 rfl ?_
                      refine dS HT 26 rfl ?_
                      refine dS HT 27 rfl ?_
                      refine dS HT 28 rfl ?_
                      refine dS HT 29 rfl ?_
                      refine dS HT 30 rfl ?_
                      refine dS HT 31 rfl ?_
                      refine dS HT 32 rfl ?_
                      refine dS HT 33 rfl ?_
                      refine dp HT 34 rfl pK ?_
                      refine dE HT ?_
                      clear HT
                      refine aCondF rfl ?_
                      refine aSkip ?_
                      refine aReg ?_
                      refine sp pM ?_
                      refine sp pAd ?_
                      refine sp pMa ?_
                      refine oNil ?_
                      refine ⟨i + 1, ?_, by (try dsimp only); omega, ⟨gInt rfl (by first | rfl | omega | simp), rfl, trivial⟩, _, (by repeat constructor)⟩
                      have hs := arcs_step (p := prevA l i) hx13
                      refine ⟨by omega, ?_⟩
                      rw [hv, hs, prevA_succ hx13]
                      by_cases h0 : i = 0 <;> simp_all [arcB, nodeB, ordA, prevA, orderA_lt, ltA]
                      all_goals (intros; omega)
    · skip
      refine aExit rfl ?_
      refine aSeq ?_
      refine aReg ?_
      refine sp pMa ?_
      refine oNil ?_
      refine aRet ?_
      refine finIs rfl ?_
      show AV.v (.bool true) = AV.v (.bool _)
      rw [hv, List.drop_of_length_le (by omega)]
      rfl
end A
end Go.Proofs.Ytmcannmjielalaa
set_option linter.unusedVariables false
set_option linter.unusedSimpArgs false
namespace Go.Proofs.Ytmcannmjielalaa
namespace A
def idxF {α : Type} (p : α → Bool) : List α → Int
  | [] => -1
  | x :: l => if p x then 0 else if idxF p l < 0 then -1 else idxF p l + 1
theorem idxF_no {α : Type} {p : α → Bool} : ∀ {l : List α}, (∀ x ∈ l, p x = false) → idxF p l = -1 ∧ l.find? p = none
  | [], _ => ⟨rfl, rfl⟩
  | x :: l, h => by
    have h1 := h x (by simp)
    obtain ⟨h2, h3⟩ := idxF_no (l := l) (fun y hy => h y (by simp [hy]))
    simp [idxF, List.find?, h1, h2, h3]
theorem idxF_at {α : Type} {p : α → Bool} : ∀ {l : List α} {i : Nat} {x : α}, (∀ y ∈ l.take i, p y = false) → l[i]? = some x → p x = true → idxF p l = i ∧ l.find? p = some x
  | [], _, _, _, h, _ => by simp at h
  | y :: l, 0, x, _, h, hp => by simp at h; subst h; simp [idxF, List.find?, hp]
  | y :: l, i + 1, x, h, hx, hp => by
    have h1 := h y (by simp)
    obtain ⟨h2, h3⟩ := idxF_at (l := l) (i := i) (fun z hz => h z (by simp [hz])) (by simpa using hx) hp
    simp only [idxF, List.find?, h1, h2, h3, Bool.false_eq_true, if_false]
    rw [if_neg (by omega)]
    refine ⟨by simp, ?_⟩
    first | rfl | trivial
end A
end Go.Proofs.Ytmcannmjielalaa
set_option linter.unusedVariables false
set_option linter.unusedSimpArgs false
namespace Go.Proofs.Ytmcannmjielalaa
namespace A
theorem el_25 : elemOf Try.prog 25 = some (3, 1, 8) := by kernel_rfl
theorem ty_144 : tyOf Try.prog 144 = some (1, false) := by kernel_rfl
theorem ty_25 : tyOf Try.prog 25 = some (1, false) := by kernel_rfl
theorem um_144 : Try.prog.underlying 144 = some (.map 3 4) := by kernel_rfl
/- maps.Keys[map[int]bool,int,bool]$1 -/
set_option maxRecDepth 100000 in
set_option maxHeartbeats 400000 in
theorem keys1_mib (b pb : Nat) (kvs : List (Int × AV)) (l : Nat) (I : List (List AV) → List HA → Prop) (S : List HA → Prop) (hy : ∀ pre x hc, KNx kvs pre x → I pre hc → YTriple Try.prog l x hc (fun r h' => ∃ v : Bool, r = .v (.bool v) ∧ (v = true → I (pre ++ [x]) h') ∧ (v = false → S h'))) (hc0 : List HA) (h0 : I [] hc0) : Triple Try.prog 215 [.fn (.yield l) [], .v (.pointer (some ⟨pb, 0, none⟩))] (.box pb [.v (.map (some b))] :: .map b kvs :: hc0) (fun r h' => ∃ hc', h' = .box pb [.v (.map (some b))] :: .map b kvs :: hc' ∧ ((∃ xs, KE kvs xs ∧ I xs hc') ∨ S hc')) := by
  refine triple_of Try.func215 rfl (by kernel_rfl) rfl (by simp) ?_
  refine aSeq ?_
  refine aReg ?_
  refine sr (rB1 ty_144) ?_
  refine sa ?_
  refine oRange rfl rfl (by decide) rfl (by repeat constructor) um_144 (fun r5 => ?_)
  refine oNil ?_
  refine aBlock ?_
  refine aLoopI (α := List Nat × List HA) (fun (idx, hc) => Idx kvs.length idx ∧ I (idx.map fun i => intA (keyAt kvs i)) hc) (fun (idx, hc) => ([(0, .fn (.yield l) []), (5, .v (.pointer (some ⟨r5, 0, none⟩)))], .mapIt b r5 kvs idx :: .box pb [.v (.map (some b))] :: hc)) (fun (idx, hc) => kvs.length - idx.length) ([], hc0) ?_ ?_ ?_
  · skip
    exact ⟨Idx.nil, h0⟩
  · skip
    exact weak_env ⟨rfl, rfl, trivial⟩
  · rintro ⟨idx, hc⟩ ⟨hix, hi⟩
    skip
    refine aSeq ?_
    refine aReg ?_
    refine sa ?_
    refine oNextR rfl rfl (by decide) rfl (by repeat constructor) (fun t6 ks6 ix6 hn6 => ?_)
    refine sp pX ?_
    refine oNil ?_
    refine aSeq ?_
    refine aCond rfl (fun c7 => ?_) (fun c7 => ?_)
    · skip
      refine aSkip ?_
      refine aBlock ?_
      refine aSeq ?_
      refine aReg ?_
      obtain ⟨i, kv, hkv, hni, rfl, rfl⟩ := hn6.yes c7
      refine sr (rEntry rfl rfl (by repeat constructor) hkv) ?_
      refine sp pX ?_
      refine sp pMa ?_
      refine oNil ?_
      refine aSeq ?_
      refine aReg ?_
      refine sp pM ?_
      refine sp pM ?_
      refine oYield (hfr := [.mapIt b r5 kvs (idx ++ [i]), .box pb [.v (.map (some b))]]) rfl rfl rfl (by decide) rfl rfl (hy _ (intA kv.1) hc (hix.knx hkv hni) hi) ?_
      rintro _ h2 ⟨v, rfl, hq1, hq2⟩
      refine sp pNo ?_
      refine oNil ?_
      refine aCondNot rfl (fun c13 => ?_) (fun c13 => ?_)
      · skip
        refine aWeak (weak_unmap .hd) ?_
        refine aRet ?_
        exact ⟨_, _, [], rfl, .cons (.tl .hd) (.cons .hd tk_refl), h2, rfl, .inr (hq2 (by simpa using c13))⟩
      · skip
        refine aSkip ?_
        have hil := (List.getElem?_eq_some_iff.1 hkv).1
        have hlt := hix.lt hil hni
        have hq := hq1 (by simpa using c13)
        refine ⟨(idx ++ [i], h2), ⟨hix.add hil hni, ?_⟩, by show kvs.length - (idx ++ [i]).length < kvs.length - idx.length; simp only [List.length_append, List.length_cons, List.length_nil]; omega, weak_env ⟨rfl, rfl, trivial⟩⟩
        rw [List.map_append, List.map_singleton, keyAt_get hkv]
        exact hq
    · skip
      obtain ⟨rfl, rfl, hall⟩ := hn6.no c7
      refine aWeak (weak_unmap .hd) ?_
      refine aExit rfl ?_
      exact ⟨_, _, [], rfl, .cons (.tl .hd) (.cons .hd tk_refl), hc, rfl, .inl ⟨_, hix.ke hall, hi⟩⟩
theorem keys1_mib_iter (b pb : Nat) (kvs : List (Int × AV)) : IterT Try.prog 215 [.v (.pointer (some ⟨pb, 0, none⟩))] (KNx kvs) (KE kvs) [.box pb [.v (.map (some b))], .map b kvs] :=
  ⟨⟨_, Try.func215, by kernel_rfl, rfl⟩, fun l I S hy hc h0 => keys1_mib b pb kvs l I S (fun pre x hc hn hi => (hy pre x hc hn hi).bool) hc h0⟩
/- maps.Keys[map[int]bool,int,bool] -/
set_option maxRecDepth 100000 in
set_option maxHeartbeats 400000 in
theorem keys_mib (b : Nat) : Triple Try.prog 119 [.v (.map (some b))] [] (fun r h' => ∃ pb, r = .fn (.func 215) [.v (.pointer (some ⟨pb, 0, none⟩))] ∧ h' = [.box pb [.v (.map (some b))]]) := by
  refine triple_of Try.func119 rfl (by kernel_rfl) rfl (by simp) ?_
  refine aSeq ?_
  refine aReg ?_
  refine sq ?_
  refine qBox rfl rfl (by decide) rfl rfl (fun b1 => ?_)
  refine sp pMa ?_
  refine oNil ?_
  refine aSeq ?_
  refine aReg ?_
  refine sp (pFn rfl rfl) ?_
  refine sp pMa ?_
  refine oNil ?_
  refine aRet ?_
  exact ⟨_, [_], [], rfl, .cons .hd .nil, b1, rfl, rfl⟩
def srt_ren : Go.Shelf.Ren := ⟨fun | 189 => 193 | 125 => 243 | 257 => 254 | 128 => 282 | 129 => 283 | 294 => 308 | 295 => 309 | 296 => 310 | 297 => 311 | 298 => 312 | 299 => 313 | 216 => 227 | 300 => 314 | 301 => 315 | 328 => 333 | 329 => 320 | 330 => 321 | 331 => 334 | 332 => 335 | 215 => 246 | 343 => 341 | n => n, fun | 28 => 25 | 3 => 3 | 46 => 270 | 0 => 0 | 51 => 313 | 53 => 37 | 4 => 4 | 183 => 307 | 182 => 306 | 131 => 175 | 5 => 5 | 9 => 9 | 218 => 341 | 222 => 344 | 228 => 354 | 229 => 187 | n => n, fun | n => n⟩
theorem srt : Go.Proofs.Lays.n189 Try.prog srt_ren := {
  mixed := by kernel_rfl,
  f125 := Try.func243.trans (congrArg some (by kernel_rfl)),
  f128 := Try.func282.trans (congrArg some (by kernel_rfl)),
  f129 := Try.func283.trans (congrArg some (by kernel_rfl)),
  f189 := Try.func193.trans (congrArg some (by kernel_rfl)),
  f215 := Try.func246.trans (congrArg some (by kernel_rfl)),
  f216 := Try.func227.trans (congrArg some (by kernel_rfl)),
  f257 := Try.func254.trans (congrArg some (by kernel_rfl)),
  f294 := Try.func308.trans (congrArg some (by kernel_rfl)),
  f295 := Try.func309.trans (congrArg some (by kernel_rfl)),
  f296 := Try.func310.trans (congrArg some (by kernel_rfl)),
  f297 := Try.func311.trans (congrArg some (by kernel_rfl)),
  f298 := Try.func312.trans (congrArg some (by kernel_rfl)),
  f299 := Try.func313.trans (congrArg some (by kernel_rfl)),
  f300 := Try.func314.trans (congrArg some (by kernel_rfl)),
  f301 := Try.func315.trans (congrArg some (by kernel_rfl)),
  f328 := Try.func333.trans (congrArg some (by kernel_rfl)),
  f329 := Try.func320.trans (congrArg some (by kernel_rfl)),
  f330 := Try.func321.trans (congrArg some (by kernel_rfl)),
  f331 := Try.func334.trans (congrArg some (by kernel_rfl)),
  f332 := Try.func335.trans (congrArg some (by kernel_rfl)),
  f343 := Try.func341.trans (congrArg some (by kernel_rfl)),
  t0 := Try.underlying0,
  a0 := Try.isAgg0,
  z0 := Try.sizeOf0,
  v0 := Try.zeroValue0,
  t3 := Try.underlying3,
  a3 := Try.isAgg3,
  z3 := Try.sizeOf3,
  v3 := Try.zeroValue3,
  t4 := Try.underlying4,
  a4 := Try.isAgg4,
  z4 := Try.sizeOf4,
  v4 := Try.zeroValue4,
  t5 := Try.underlying5,
  a5 := Try.isAgg5,
  z5 := Try.sizeOf5,
  v5 := Try.zeroValue5,
  t9 := Try.underlying9,
  a9 := Try.isAgg9,
  z9 := Try.sizeOf9,
  v9 := Try.zeroValue9,
  t28 := Try.underlying25,
  a28 := Try.isAgg25,
  z28 := Try.sizeOf25,
  v28 := Try.zeroValue25,
  t46 := Try.underlying270,
  a46 := Try.isAgg270,
  z46 := Try.sizeOf270,
  v46 := Try.zeroValue270,
  t51 := Try.underlying313,
  a51 := Try.isAgg313,
  z51 := Try.sizeOf313,
  v51 := Try.zeroValue313,
  t53 := Try.underlying37,
  a53 := Try.isAgg37,
  z53 := Try.sizeOf37,
  v53 := Try.zeroValue37,
  t131 := Try.underlying175,
  a131 := Try.isAgg175,
  z131 := Try.sizeOf175,
  v131 := Try.zeroValue175,
  t182 := Try.underlying306,
  a182 := Try.isAgg306,
  z182 := Try.sizeOf306,
  v182 := Try.zeroValue306,
  t183 := Try.underlying307,
  a183 := Try.isAgg307,
  z183 := Try.sizeOf307,
  v183 := Try.zeroValue307,
  t218 := Try.underlying341,
  a218 := Try.isAgg341,
  z218 := Try.sizeOf341,
  v218 := Try.zeroValue341,
  t222 := Try.underlying344,
  a222 := Try.isAgg344,
  z222 := Try.sizeOf344,
  v222 := Try.zeroValue344,
  t228 := Try.underlying354,
  a228 := Try.isAgg354,
  z228 := Try.sizeOf354,
  v228 := Try.zeroValue354,
  t229 := Try.underlying187,
  a229 := Try.isAgg187,
  z229 := Try.sizeOf187,
  v229 := Try.zeroValue187 }
/- slices.AppendSeq[[]int,int] -/
set_option maxRecDepth 100000 in
set_option maxHeartbeats 400000 in
theorem appendSeq_int (gf : FuncId) (caps : List AV) (kvs : List (Int × AV)) (hit : List HA) (it : IterT Try.prog gf caps (KNx kvs) (KE kvs) hit) (hl : kvs.length ≤ 1000000) : Triple Try.prog 262 [(.v (.slice none 0 0)), .fn (.func gf) caps] hit (fun r h' => ∃ (ks : List Int) (g : Option Nat) (c : Nat), r = .v (slV g ks.length c) ∧ h' = .sl g c 3 1 (ks.map intA) :: hit ∧ ks.Perm (kvs.map Prod.fst)) := by
  refine triple_of Try.func262 rfl (by kernel_rfl) rfl (by simp) ?_
  refine aSeq ?_
  refine aReg ?_
  refine sq ?_
  refine qBox rfl rfl (by decide) rfl rfl (fun b2 => ?_)
  refine sp pMa ?_
  refine oNil ?_
  refine aSeq ?_
  refine aSeq ?_
  refine aReg ?_
  refine sp pM ?_
  refine oNil ?_
  refine aBlock ?_
  refine aRangeFunc (α := List Int × Option Nat × Nat) (fun (ks, g, c) => [.sl g c 3 1 (ks.map intA), .box b2 [.v (slV g ks.length c)]]) (fun pre (ks, g, c) => pre = ks.map intA) ([], none, 0) rfl (by decide) it ?_ ?_ ?_ ?_ ?_
  · skip
    rintro _ _ ⟨_, _, _, rfl, _⟩; rfl
  · skip
    refine Weak.trans (weak_nil 3 1) ?_
    exact weak_perm (List.perm_append_comm (l₁ := [_, _]))
  · skip
    rfl
  · rintro pre x ⟨ks, g, c⟩ ⟨ks', k, hpre, rfl, hkl⟩ hJ
    replace hJ : pre = ks.map intA := hJ
    obtain rfl : ks = ks' := intA_inj (hJ.symm.trans hpre)
    refine aReg ?_
    refine sp pMa ?_
    refine oNil ?_
    refine aBlock ?_
    refine aReg ?_
    refine sr (by first | exact rS1 ty_25 | exact rB1 ty_25 | exact rAr ty_25 | exact rArL ty_25 | exact rArR2 ty_25) ?_
    refine sp pM ?_
    refine sq ?_
    refine qLit (l := [_]) rfl rfl (by decide) us_25 ty_3 ze_3 rfl (by decide) (by decide) rfl rfl rfl (fun b10 => ?_)
    refine sa ?_
    refine oAppT [_] rfl rfl (by repeat constructor) (srcOwn rfl (by repeat constructor) rfl) el_25 sl_25 (fun g11 k11 => ?_)
    refine sa ?_
    refine oStB rfl rfl rfl rfl (by repeat constructor) ty_25 rfl (Nat.le_of_ble_eq_true rfl) rfl ?_
    refine oNil ?_
    refine ⟨(ks ++ [k], g11, k11), by show pre ++ _ = List.map intA (ks ++ [k]); rw [List.map_append, hJ]; rfl, ?_⟩
    simp only [List.map_append, List.map_cons, List.map_nil, List.length_append, List.length_cons, List.length_nil, List.length_map]
    exact weak_sub trivial (by repeat constructor)
  · rintro xs ⟨ks, g, c⟩ hE hJ
    try dsimp only [List.nil_append, List.cons_append]
    replace hJ : xs = ks.map intA := hJ
    obtain ⟨ks', hks, hperm⟩ := hE
    obtain rfl : ks = ks' := intA_inj (hJ.symm.trans hks)
    refine aWeak (weak_perm List.perm_append_comm) ?_
    refine aSeq ?_
    refine aReg ?_
    refine sr (by first | exact rS1 ty_25 | exact rB1 ty_25 | exact rAr ty_25 | exact rArL ty_25 | exact rArR2 ty_25) ?_
    refine sp pMa ?_
    refine oNil ?_
    refine aRet ?_
    exact ⟨_, _ :: hit, [_], rfl, .cons .hd (tk_after (l := [_])), ks, g, c, rfl, rfl, hperm⟩
/- slices.Collect[int] -/
set_option maxRecDepth 100000 in
set_option maxHeartbeats 400000 in
theorem collect_int (gf : FuncId) (caps : List AV) (kvs : List (Int × AV)) (hit : List HA) (it : IterT Try.prog gf caps (KNx kvs) (KE kvs) hit) (hl : kvs.length ≤ 1000000) : Triple Try.prog 214 [.fn (.func gf) caps] hit (fun r h' => ∃ (ks : List Int) (g : Option Nat) (c : Nat), r = .v (slV g ks.length c) ∧ h' = .sl g c 3 1 (ks.map intA) :: hit ∧ ks.Perm (kvs.map Prod.fst)) := by
  refine triple_of Try.func214 rfl (by kernel_rfl) rfl (by simp) ?_
  refine aSeq ?_
  refine aReg ?_
  refine sp pMa ?_
  refine oNil ?_
  refine aSeq ?_
  refine aReg ?_
  refine sp pM ?_
  refine sa ?_
  refine aCall (hin := hit) (hfr := []) rfl rfl (by decide) rfl rfl tk_refl (appendSeq_int gf caps kvs hit it hl) ?_
  rintro _ _ ⟨ks, g, c, rfl, rfl, hperm⟩
  refine sp pMa ?_
  refine oNil ?_
  refine aRet ?_
  refine ⟨_, _ :: hit, [], rfl, ?_, ks, g, c, rfl, rfl, hperm⟩
  rw [List.append_nil]
  exact tk_refl
/- slices.Sorted[int] -/
set_option maxRecDepth 100000 in
set_option maxHeartbeats 400000 in
theorem sorted_int (gf : FuncId) (caps : List AV) (kvs : List (Int × AV)) (hit : List HA) (it : IterT Try.prog gf caps (KNx kvs) (KE kvs) hit) (hl : kvs.length ≤ 1000000) : Triple Try.prog 118 [.fn (.func gf) caps] hit (fun r h' => ∃ g c, r = .v (slV g (sortI (kvs.map Prod.fst)).length c) ∧ h' = .sl g c 3 1 ((sortI (kvs.map Prod.fst)).map intA) :: hit) := by
  refine triple_of Try.func118 rfl (by kernel_rfl) rfl (by simp) ?_
  refine aSeq ?_
  refine aReg ?_
  refine sp pMa ?_
  refine oNil ?_
  refine aSeq ?_
  refine aReg ?_
  refine sp pM ?_
  refine sa ?_
  refine aCall (hin := hit) (hfr := []) rfl rfl (by decide) rfl rfl tk_refl (collect_int gf caps kvs hit it hl) ?_
  rintro _ _ ⟨ks, g, c, rfl, rfl, hperm⟩
  refine sp pMa ?_
  refine oNil ?_
  refine aSeq ?_
  refine aReg ?_
  refine sp pM ?_
  refine sa ?_
  refine aCall (hin := [_]) (hfr := hit ++ []) rfl rfl (by decide) rfl rfl (.cons .hd .nil) (triple_sort srt rfl ⟨_, Try.func193, by kernel_rfl, rfl⟩ g c 3 ks (by have := hperm.length_eq; rw [List.length_map] at this; omega)) ?_
  rintro _ _ ⟨rfl, rfl⟩
  refine oNil ?_
  refine aSeq ?_
  refine aReg ?_
  refine sp pM ?_
  refine sp pMa ?_
  refine oNil ?_
  refine aRet ?_
  have hs : sortI ks = sortI (kvs.map Prod.fst) := sortI_perm hperm
  refine ⟨_, .sl g c 3 1 ((sortI ks).map intA) :: hit, [], rfl, ?_, g, c, ?_, ?_⟩
  · show Tk (_ :: (hit ++ [])) _ _
    rw [List.append_nil]
    exact tk_refl
  · rw [← hs, sortI_length]; rfl
  · rw [hs]
end A
end Go.Proofs.Ytmcannmjielalaa
set_option linter.unusedVariables false
set_option linter.unusedSimpArgs false
namespace Go.Proofs.Ytmcannmjielalaa
namespace A
theorem el_22 : elemOf Try.prog 22 = some (36, 3, 24) := by kernel_rfl
theorem mo_144 : mapOf Try.prog 144 = some (3, 4) := by kernel_rfl
theorem us_22 : Try.prog.underlying 22 = some (.slice 36) := by kernel_rfl
/- api.Arc] -/
set_option maxRecDepth 100000 in
set_option maxHeartbeats 400000 in
theorem index_Arc {f : FuncId} {caps : List AV} {p : Arc → Bool} (hf : ∀ x : Arc, Triple Try.prog f ([AV.agg (arcC x)] ++ caps) [] (Is (.v (.bool (p x))) [])) (l : List Arc) (hl : l.length ≤ 1000000) : Triple Try.prog 196 [.sl 3 (l.map arcC), .fn (.func f) caps] [] (Is (.v (.int .i64 (idxF p l))) []) := by
  refine triple_of Try.func196 rfl (by kernel_rfl) rfl (by simp) ?_
  refine aSeq ?_
  refine aReg ?_
  refine sp pMa ?_
  refine oNil ?_
  refine aSeq ?_
  refine aSeq ?_
  refine aReg ?_
  refine sp pM ?_
  refine sp (by first | exact pLm sl_22 | exact pLs sl_22) ?_
  refine sp pM ?_
  refine oNil ?_
  refine aBlock ?_
  refine loopF (α := Nat) (kept := [(0, _), (1, _), (7, _)]) (fun i => i ≤ l.length ∧ ∀ y ∈ l.take i, p y = false) (fun i => [(8, .int i)]) (fun i => []) (fun i => l.length - i) 0 ?_ ⟨gInt rfl (by first | rfl | omega | simp), rfl, rfl, rfl, trivial⟩ (by repeat constructor) ?_
  · skip
    exact ⟨by omega, fun y hy => by simp at hy⟩
  · rintro i ⟨hi, hv⟩
    refine aSeq ?_
    refine aReg ?_
    refine sp pB ?_
    refine oNil ?_
    refine aSeq ?_
    refine aCondDec rfl (fun c9 => ?_) (fun c9 => ?_)
    · skip
      refine aSkip ?_
      refine aSeq ?_
      refine aBlock ?_
      refine aSeq ?_
      refine aReg ?_
      refine sp pM ?_
      refine sp pMa ?_
      refine oNil ?_
      refine aSeq ?_
      obtain ⟨x, hx⟩ : ∃ x, l[i]? = some x := ⟨_, List.getElem?_eq_getElem (by omega)⟩
      refine aReg ?_
      refine sp pM ?_
      refine sp pM ?_
      refine sp pM ?_
      first | refine sp (pIx es_22) ?_ | (refine obtSN 12 13 rfl rfl (by omega) (fun x14 hx14 => ?_); refine sp (pIs es_22 hx14) ?_) | (refine obtS 12 13 rfl rfl (by omega) (by omega) (fun x14 hx14 => ?_); refine sp (pIs es_22 hx14) ?_) | refine sp (pIo es_22) ?_
      refine sr (by first | exact rSW ty_36 rfl | exact rSA ty_36) ?_
      refine sq ?_
      refine cv rfl rfl rfl (lents_refl _) (hf x) ?_
      refine oNil ?_
      refine aCond rfl (fun c16 => ?_) (fun c16 => ?_)
      · skip
        refine aSeq ?_
        refine aReg ?_
        refine sp pM ?_
        refine sp pMa ?_
        refine oNil ?_
        refine aRet ?_
        refine finIs rfl ?_
        show AV.int _ = AV.int _
        rw [(idxF_at hv hx (by simp_all)).1]
      · skip
        refine aSkip ?_
        refine aReg ?_
        refine sp pAd ?_
        refine sp pM ?_
        refine oNil ?_
        refine ⟨i + 1, ?_, by (try dsimp only); omega, ⟨gInt rfl (by first | rfl | omega | simp), rfl, rfl, rfl, trivial⟩, _, (by repeat constructor)⟩
        refine ⟨by omega, fun y hy => ?_⟩
        rw [take_step hx] at hy
        rcases List.mem_append.1 hy with hy | hy
        · exact hv y hy
        · rw [List.mem_singleton.1 hy]; simp_all
    · skip
      refine aExit rfl ?_
      refine aSeq ?_
      refine aReg ?_
      refine sp pMa ?_
      refine oNil ?_
      refine aRet ?_
      refine finIs rfl ?_
      show AV.int _ = AV.int _
      rw [take_all (by omega)] at hv
      rw [(idxF_no hv).1]
def endP (v : Int) (a : Arc) : Bool := a.f == v || a.t == v
def nodesM (l : List Arc) : List Int := ((List.range 65).map fun (i : Nat) => (i : Int)).filter fun v => l.any (endP v)
theorem nodesM_sorted (l : List Arc) : (nodesM l).Pairwise (· < ·) := by
  refine List.Pairwise.sublist List.filter_sublist ?_
  rw [List.pairwise_map]
  exact List.pairwise_lt_range.imp (fun h => by omega)
theorem nodesM_mem {l : List Arc} (hl : ∀ a ∈ l, AOk a) {v : Int} : v ∈ nodesM l ↔ ∃ a ∈ l, a.f = v ∨ a.t = v := by
  unfold nodesM endP
  rw [List.mem_filter]
  simp only [List.any_eq_true, Bool.or_eq_true, beq_iff_eq, List.mem_map, List.mem_range]
  refine ⟨fun h => h.2, fun h => ⟨?_, h⟩⟩
  obtain ⟨a, ha, e⟩ := h
  have hok := hl a ha
  unfold AOk at hok
  exact ⟨v.toNat, by omega, by omega⟩
theorem nodesM_len (l : List Arc) : (nodesM l).length ≤ 65 := by
  unfold nodesM
  refine Nat.le_trans (List.length_filter_le _ _) ?_
  simp
theorem nodesM_rng {l : List Arc} (hl : ∀ a ∈ l, AOk a) {v : Int} (h : v ∈ nodesM l) : 1 ≤ v ∧ v ≤ 64 := by
  obtain ⟨a, ha, e⟩ := (nodesM_mem hl).1 h
  have hok := hl a ha
  unfold AOk at hok
  omega
def NodeKeys (l : List Arc) (m : List (Int × Bool)) : Prop := (mKeys m).Nodup ∧ ∀ v, v ∈ mKeys m ↔ ∃ a ∈ l, a.f = v ∨ a.t = v
theorem NodeKeys.put {l : List Arc} {m : List (Int × Bool)} {a : Arc} {b c : Bool} (h : NodeKeys l m) : NodeKeys (l ++ [a]) (mPut (mPut m a.f b) a.t c) := by
  refine ⟨mPut_nodup (mPut_nodup h.1), fun v => ?_⟩
  rw [mPut_keys, mPut_keys, h.2]
  constructor
  · rintro (e | e | ⟨x, hx, e⟩)
    · exact ⟨a, by simp, .inr e.symm⟩
    · exact ⟨a, by simp, .inl e.symm⟩
    · exact ⟨x, by simp [hx], e⟩
  · rintro ⟨x, hx, e⟩
    rcases List.mem_append.1 hx with hx | hx
    · exact .inr (.inr ⟨x, hx, e⟩)
    · rw [List.mem_singleton.1 hx] at e
      rcases e with e | e
      · exact .inr (.inl e.symm)
      · exact .inl e.symm
theorem NodeKeys.sorted {l : List Arc} {m : List (Int × Bool)} (hl : ∀ a ∈ l, AOk a) (h : NodeKeys l m) : sortI (mKeys m) = nodesM l :=
  sortI_eq h.1 (nodesM_sorted l) (fun x => by rw [h.2, nodesM_mem hl])
theorem NodeKeys.len {l : List Arc} {m : List (Int × Bool)} (hl : ∀ a ∈ l, AOk a) (h : NodeKeys l m) : m.length ≤ 65 :=
  mLen h.1 (n := 65) (fun x hx => by have := nodesM_rng hl ((nodesM_mem hl).2 ((h.2 x).1 hx)); omega)
/- graph.Nodes -/
def graph_Nodes_r7_T : Bool × List (List Nat × List Nat) := (true, [([], []), ([], []), ([1], [1]), ([], []), ([], []), ([4], [4]), ([0, 2, 0, 1, 2], [0, 2]), ([3, 5, 6, 0, 1, 2, 3, 4, 5, 6], [3, 5])])
def graph_Nodes_r7_B : List Nat := [0, 0, 2, 0, 0, 16, 7, 127]
theorem graph_Nodes_r7_t : Go.Proofs.YtmcannmjielalaaW.PrintLast.rtab .any (Go.Proofs.YtmcannmjielalaaW.PrintLast.opsOf Try.f29 7) = graph_Nodes_r7_T := by kernel_rfl
theorem graph_Nodes_r7_b : Go.Proofs.YtmcannmjielalaaW.PrintLast.waitsOk graph_Nodes_r7_T.2 graph_Nodes_r7_B = true := by kernel_rfl
set_option maxRecDepth 100000 in
set_option maxHeartbeats 1000000 in
theorem graph_Nodes {l : List Arc} (hl : l.length ≤ 1000000 := by omega) : Triple Try.prog 29 [.sl 3 (l.map arcC)] [] (Own 3 1 ((if arcsB none l then nodesM l else []).map intA) []) := by
  refine triple_of Try.func29 rfl (by kernel_rfl) rfl (by simp) ?_
  refine aSeq ?_
  refine aReg ?_
  refine sp pMa ?_
  refine oNil ?_
  refine aSeq ?_
  refine aSeq ?_
  refine aReg ?_
  refine sp pM ?_
  refine sq ?_
  refine cv rfl rfl rfl (lents_refl _) graph_Check ?_
  refine sp pB ?_
  refine oNil ?_
  refine aCondNe rfl (fun c8 => ?_) (fun c8 => ?_)
  · skip
    refine aSeq ?_
    refine aWeak (weak_nil 3 1) ?_
    refine aReg ?_
    refine sp pMa ?_
    refine oNil ?_
    refine aRet ?_
    refine finOwn rfl ?_
    have hno : arcsB none l = false := by cases h : arcsB none l <;> simp_all
    rw [hno]
    rfl
  · skip
    refine aSkip ?_
    refine aSeq ?_
    have hyes : arcsB none l = true := by cases h : arcsB none l <;> simp_all
    have hok := arcs_ok hyes
    refine aReg ?_
    refine sq ?_
    refine qMM boA rfl (fun b9 => ?_)
    refine sp pMa ?_
    refine oNil ?_
    refine aSeq ?_
    refine aSeq ?_
    refine aReg ?_
    refine sp pM ?_
    refine sp (by first | exact pLm sl_22 | exact pLs sl_22) ?_
    refine sp pM ?_
    refine oNil ?_
    refine aBlock ?_
    refine loopF (α := Nat × List (Int × Bool)) (kept := [(3, _), (10, _), (11, _)]) (fun (i, m) => i ≤ l.length ∧ NodeKeys (l.take i) m) (fun (i, m) => [(12, .int i)]) (fun (i, m) => [.map b9 (kvM boA m)]) (fun (i, m) => l.length - i) (0, []) ?_ ⟨gInt rfl (by first | rfl | omega | simp), rfl, rfl, rfl, trivial⟩ (by repeat constructor) ?_
    · skip
      exact ⟨by omega, by simp [NodeKeys, mKeys]⟩
    · rintro ⟨i, m⟩ ⟨hi, hK⟩
      refine aSeq ?_
      refine aReg ?_
      refine sp pB ?_
      refine oNil ?_
      refine aSeq ?_
      refine aCondDec rfl (fun c13 => ?_) (fun c13 => ?_)
      · skip
        refine aSkip ?_
        refine aSeq ?_
        refine aBlock ?_
        refine aSeq ?_
        obtain ⟨a, ha⟩ : ∃ a, l[i]? = some a := ⟨_, List.getElem?_eq_getElem (by omega)⟩
        refine aReg ?_
        first | refine sp (pIx es_22) ?_ | (refine obtSN 10 12 rfl rfl (by omega) (fun x14 hx14 => ?_); refine sp (pIs es_22 hx14) ?_) | (refine obtS 10 12 rfl rfl (by omega) (by omega) (fun x14 hx14 => ?_); refine sp (pIs es_22 hx14) ?_) | refine sp (pIo es_22) ?_
        refine sr (by first | exact rSW ty_36 rfl | exact rSA ty_36) ?_
        refine sq ?_
        refine qAlloc rfl rfl (by decide) ze_36 rfl (fun b5 => ?_)
        refine sa ?_
        refine oStW rfl rfl rfl rfl (by repeat constructor) ty_36 ?_
        refine oNil ?_
        refine aDrawS (h1 := [.box b5 _]) graph_Nodes_r7_t graph_Nodes_r7_b [] 8 #[false, false, false, false, false, false, false, false] (by kernel_rfl) rfl rfl (by repeat constructor) (fun HT => ?_)
        refine ep HT 0 rfl pM ?_
        refine ep HT 1 rfl (pFb fd_36_0) ?_
        refine er HT 2 rfl (rB1 ty_3) ?_
        refine ep HT 3 rfl pM ?_
        refine ep HT 4 rfl (pFb fd_36_1) ?_
        refine er HT 5 rfl (rB1 ty_3) ?_
        refine eOneS (i := 6) #[true, true, true, true, true, true, true, false] rfl (HT.one (by kernel_rfl)) (by decide) ?_
        · skip
          refine stA (hx := [.map _ _]) (wantN rfl) (fun t ht => by cases ht <;> decide) (.cons (by repeat constructor) .nil) (by repeat constructor) ?_
          first | refine oMP rfl rfl rfl rfl mo_144 ?_ | refine oMapSet rfl rfl rfl rfl rfl (by repeat constructor) mo_144 ?_
          dsimp only [List.cons_append, List.nil_append]
          refine eOneS (i := 7) #[true, true, true, true, true, true, true, true] rfl (HT.one (by kernel_rfl)) (by decide) ?_
          · skip
            refine stA (hx := [.map _ _]) (wantN rfl) (fun t ht => by cases ht <;> decide) (.cons (by repeat constructor) .nil) (by repeat constructor) ?_
            first | refine oMP rfl rfl rfl rfl mo_144 ?_ | refine oMapSet rfl rfl rfl rfl rfl (by repeat constructor) mo_144 ?_
            dsimp only [List.cons_append, List.nil_append]
            refine eE HT ?_
            clear HT
            refine aReg ?_
            refine sp pAd ?_
            refine sp pM ?_
            refine oNil ?_
            refine ⟨(i + 1, _), ?_, by (try dsimp only); omega, ⟨gInt rfl (by first | rfl | omega | simp), rfl, rfl, rfl, trivial⟩, _, (by repeat constructor)⟩
            exact ⟨by omega, by rw [take_step ha]; exact hK.put⟩
      · skip
        rw [take_all (by omega)] at hK
        refine aExit rfl ?_
        refine aSeq ?_
        have hks := hK.sorted hok
        have hml := hK.len hok
        refine aReg ?_
        refine sp pM ?_
        refine sa ?_
        refine ca rfl rfl rfl (keys_mib b9) ?_
        rintro _ _ ⟨pb, rfl, rfl⟩
        refine sa ?_
        refine aCall (hin := _) (hfr := []) rfl rfl (by decide) rfl rfl tk_refl (sorted_int _ _ (kvM boA m) _ (keys1_mib_iter b9 pb (kvM boA m)) (by rw [kvM_len]; omega)) ?_
        rintro _ _ ⟨g, c, rfl, rfl⟩
        rw [kvM_keys, hks]
        refine sp pMa ?_
        refine oNil ?_
        refine aRet ?_
        refine finOwn rfl ?_
        rw [hyes]
        rfl
end A
end Go.Proofs.Ytmcannmjielalaa
set_option linter.unusedVariables false
set_option linter.unusedSimpArgs false
namespace Go.Proofs.Ytmcannmjielalaa
namespace A
theorem any_take24 {α : Type} {p : α → Bool} {l : List α} {i : Nat} {a : α} (h : l[i]? = some a) : (l.take (i + 1)).any p = ((l.take i).any p || p a) := by rw [take_step h]; simp
end A
end Go.Proofs.Ytmcannmjielalaa
set_option linter.unusedVariables false
set_option linter.unusedSimpArgs false
namespace Go.Proofs.Ytmcannmjielalaa
namespace A
theorem st_36 : structPlaces Try.prog 36 = some [(0, 1), (1, 1), (2, 1)] := by kernel_rfl
structure Link where
  t : Int
  c : Int
  deriving DecidableEq
structure Lsa where
  o : Int
  s : Int
  ls : List Link
  deriving DecidableEq
end A
end Go.Proofs.Ytmcannmjielalaa
set_option linter.unusedVariables false
set_option linter.unusedSimpArgs false
namespace Go.Proofs.Ytmcannmjielalaa
namespace A
def farI : Int := 18446744073709551615
def addS (a b : Int) : Int := if a > farI - b then farI else a + b
end A
end Go.Proofs.Ytmcannmjielalaa
set_option linter.unusedVariables false
set_option linter.unusedSimpArgs false
namespace Go.Proofs.Ytmcannmjielalaa
namespace A
structure Rt where
  nd : Int
  via : Int
  c : Int
  deriving DecidableEq, Inhabited
end A
end Go.Proofs.Ytmcannmjielalaa
set_option linter.unusedVariables false
set_option linter.unusedSimpArgs false
namespace Go.Proofs.Ytmcannmjielalaa
namespace A
theorem ty_37 : tyOf Try.prog 37 = some (1, false) := by kernel_rfl
/- cost.Far -/
set_option maxRecDepth 100000 in
set_option maxHeartbeats 400000 in
theorem cost_Far  : Triple Try.prog 226 [] [] (Is (.v (.int .u64 18446744073709551615)) []) := by
  refine triple_of Try.func226 rfl (by kernel_rfl) rfl (by simp) ?_
  refine aSeq ?_
  refine aReg ?_
  refine sp pMa ?_
  refine oNil ?_
  refine aSeq ?_
  refine aReg ?_
  refine sp pMa ?_
  refine oNil ?_
  refine aRet ?_
  refine finIs rfl ?_
  rfl
/- cost.Add -/
set_option maxRecDepth 100000 in
set_option maxHeartbeats 400000 in
theorem cost_Add {a b : Int} (ha : 0 ≤ a) (hb : 0 ≤ b) (ha2 : a ≤ 18446744073709551615) (hb2 : b ≤ 18446744073709551615) : Triple Try.prog 135 [.v (.int .u64 a), .v (.int .u64 b)] [] (Is (.v (.int .u64 (if a > 18446744073709551615 - b then 18446744073709551615 else a + b))) []) := by
  refine triple_of Try.func135 rfl (by kernel_rfl) rfl (by simp) ?_
  refine aSeq ?_
  refine aReg ?_
  refine sp pMa ?_
  refine oNil ?_
  refine aSeq ?_
  refine aSeq ?_
  refine aReg ?_
  refine sp pM ?_
  refine sq ?_
  refine cv rfl rfl rfl (lents_refl _) cost_Far ?_
  refine sp pM ?_
  refine sp (by first | exact pSuK | exact pB) ?_
  refine sp pB ?_
  refine oNil ?_
  refine aCondDec rfl (fun c9 => ?_) (fun c9 => ?_)
  · skip
    refine aSeq ?_
    refine aReg ?_
    refine sq ?_
    refine cv rfl rfl rfl (lents_refl _) cost_Far ?_
    refine sp pMa ?_
    refine oNil ?_
    refine aRet ?_
    refine finIs rfl ?_
    rw [if_pos (by assumption)]
    rfl
  · skip
    refine aSkip ?_
    refine aSeq ?_
    refine aReg ?_
    refine sp pM ?_
    refine sp pM ?_
    refine sp (by first | exact pAdK | exact pB) ?_
    refine sp pMa ?_
    refine oNil ?_
    refine aRet ?_
    refine finIs rfl ?_
    rw [if_neg (by assumption)]
    rfl
end A
end Go.Proofs.Ytmcannmjielalaa
set_option linter.unusedVariables false
set_option linter.unusedSimpArgs false
namespace Go.Proofs.Ytmcannmjielalaa
namespace A
theorem ik_3 : intKindOf Try.prog 3 = some .i64 := by kernel_rfl
theorem ik_37 : intKindOf Try.prog 37 = some .u64 := by kernel_rfl
theorem add_far {a b : Int} (h : a + b ≤ 18446744073709551615) : addS a b = a + b := by unfold addS farI; rw [if_neg (by omega)]
/- waymarkref22.Add -/
set_option maxRecDepth 100000 in
set_option maxHeartbeats 1000000 in
theorem ref22_Add {a b : Int} (ha : 0 ≤ a) (hb : 0 ≤ b) (ha2 : a ≤ 18446744073709551615) (hb2 : b ≤ 18446744073709551615) : Triple Try.prog 47 [.v (.int .u64 a), .v (.int .u64 b)] [] (Is (.v (.int .u64 (addS a b))) []) := by
  have e1 : a.tmod 4294967296 = a % 4294967296 := Int.tmod_eq_emod_of_nonneg ha
  have e2 : b.tmod 4294967296 = b % 4294967296 := Int.tmod_eq_emod_of_nonneg hb
  have e3 : a.tdiv 4294967296 = a / 4294967296 := Int.tdiv_eq_ediv_of_nonneg ha
  have e4 : b.tdiv 4294967296 = b / 4294967296 := Int.tdiv_eq_ediv_of_nonneg hb
  refine triple_of Try.func47 rfl (by kernel_rfl) rfl (by simp) ?_
  refine aSeq ?_
  refine aReg ?_
  refine sp pMa ?_
  refine oNil ?_
  refine aSeq ?_
  refine aReg ?_
  refine sp pM ?_
  refine sp (pRem rfl rfl rfl (by first | decide | omega)) ?_
  rw [e1]
  refine sp pM ?_
  refine sp (pRem rfl rfl rfl (by first | decide | omega)) ?_
  rw [e2]
  refine sp (by first | exact pAdK | exact pB) ?_
  refine sp pMa ?_
  refine oNil ?_
  refine aSeq ?_
  refine aReg ?_
  refine sp pM ?_
  refine sp (pQuo rfl rfl rfl (by first | decide | omega)) ?_
  rw [e3, wrap_u64 (by omega) (by omega)]
  refine sp pM ?_
  refine sp (pQuo rfl rfl rfl (by first | decide | omega)) ?_
  rw [e4, wrap_u64 (by omega) (by omega)]
  refine sp (by first | exact pAdK | exact pB) ?_
  refine sp pM ?_
  refine sp (pQuo rfl rfl rfl (by first | decide | omega)) ?_
  rw [Int.tdiv_eq_ediv_of_nonneg (by omega), wrap_u64 (by omega) (by omega)]
  refine sp (by first | exact pAdK | exact pB) ?_
  refine sp pMa ?_
  refine oNil ?_
  refine aSeq ?_
  refine aSeq ?_
  refine aReg ?_
  refine sp pM ?_
  refine sp pB ?_
  refine oNil ?_
  refine aCondDec rfl (fun c21 => ?_) (fun c21 => ?_)
  · skip
    refine aSeq ?_
    refine aReg ?_
    refine sp pMa ?_
    refine oNil ?_
    refine aRet ?_
    refine finIs rfl ?_
    show AV.v _ = AV.v _
    unfold addS farI
    rw [if_pos (by omega)]
  · skip
    refine aSkip ?_
    refine aSeq ?_
    refine aReg ?_
    refine sp pM ?_
    refine sp (by first | exact pMuK | exact pB) ?_
    refine sp pM ?_
    refine sp (pRem rfl rfl rfl (by first | decide | omega)) ?_
    rw [Int.tmod_eq_emod_of_nonneg (by omega)]
    refine sp (by first | exact pAdK | exact pB) ?_
    refine sp pMa ?_
    refine oNil ?_
    refine aRet ?_
    refine finIs rfl ?_
    show AV.v _ = AV.v _
    unfold addS farI
    rw [if_neg (by omega)]
    congr 2
    omega
end A
end Go.Proofs.Ytmcannmjielalaa
