/- Texts that EcmpLeast's proof rests on, part 13. -/
import Derived.KernelRfl
import Derived.Test.YtmcannmjielalaaProg
import Derived.Test.YtmcannmjielalaaS11EcmpLeast
set_option linter.unusedVariables false
set_option linter.unusedSimpArgs false
namespace Go.Proofs.Ytmcannmjielalaa
namespace A
theorem es_22 : elemSize Try.prog 22 = some 3 := by kernel_rfl
theorem es_25 : elemSize Try.prog 25 = some 1 := by kernel_rfl
theorem fd_36_0 : fieldOf Try.prog 36 0 = some (0, 1, false) := by kernel_rfl
theorem fd_36_1 : fieldOf Try.prog 36 1 = some (1, 1, false) := by kernel_rfl
theorem fd_36_2 : fieldOf Try.prog 36 2 = some (2, 1, false) := by kernel_rfl
theorem sl_22 : isSl Try.prog 22 = true := by kernel_rfl
theorem sl_25 : isSl Try.prog 25 = true := by kernel_rfl
theorem ty_3 : tyOf Try.prog 3 = some (1, false) := by kernel_rfl
theorem ty_36 : tyOf Try.prog 36 = some (3, true) := by kernel_rfl
theorem us_25 : Try.prog.underlying 25 = some (.slice 3) := by kernel_rfl
theorem ze_3 : zeroOf Try.prog 3 = some (.int .i64 0) := by kernel_rfl
theorem ze_36 : zeroOf Try.prog 36 = some (.agg #[.int .i64 0, .int .i64 0, .int .i64 0]) := by kernel_rfl
def cmpI (a b : Int) : Int := if a < b then -1 else if b < a then 1 else 0
def orI : List Int → Int
  | [] => 0
  | a :: l => if a ≠ 0 then a else orI l
theorem orI_drop {xs : List Int} {i : Nat} {a : Int} (h : xs[i]? = some a) : orI (xs.drop i) = if a ≠ 0 then a else orI (xs.drop (i + 1)) := by
  rw [drop_step h]
  rfl
/- cmp.isNaN[int] -/
set_option maxRecDepth 100000 in
set_option maxHeartbeats 400000 in
theorem cmp_isNaN {n : Int} : Triple Try.prog 246 [.int n] [] (Is (.v (.bool false)) []) := by
  refine triple_of Try.func246 rfl (by kernel_rfl) rfl (by simp) ?_
  refine aSeq ?_
  refine aReg ?_
  refine sp pMa ?_
  refine oNil ?_
  refine aSeq ?_
  refine aReg ?_
  refine sp pM ?_
  refine sp pM ?_
  refine sp pB ?_
  refine sp pMa ?_
  refine oNil ?_
  refine aRet ?_
  refine finIs rfl ?_
  simp [retOf]
/- cmp.Compare[int] -/
set_option maxRecDepth 100000 in
set_option maxHeartbeats 400000 in
theorem cmp_Compare {a b : Int} : Triple Try.prog 174 [.int a, .int b] [] (Is (.v (.int .i64 (cmpI a b))) []) := by
  refine triple_of Try.func174 rfl (by kernel_rfl) rfl (by simp) ?_
  refine aSeq ?_
  refine aReg ?_
  refine sp pMa ?_
  refine oNil ?_
  refine aSeq ?_
  refine aReg ?_
  refine sp pM ?_
  refine sq ?_
  refine cv rfl rfl rfl (lents_refl _) cmp_isNaN ?_
  refine sp pMa ?_
  refine oNil ?_
  refine aSeq ?_
  refine aReg ?_
  refine sp pM ?_
  refine sq ?_
  refine cv rfl rfl rfl (lents_refl _) cmp_isNaN ?_
  refine sp pMa ?_
  refine oNil ?_
  refine aSeq ?_
  refine aSeq ?_
  refine aReg ?_
  refine sp pM ?_
  refine oNil ?_
  refine aCond rfl (fun c11 => ?_) (fun c11 => ?_)
  · skip
    refine aSeq ?_
    refine aSeq ?_
    refine aReg ?_
    refine sp pM ?_
    refine oNil ?_
    refine aCond rfl (fun c12 => ?_) (fun c12 => ?_)
    · skip
      refine aSeq ?_
      refine aReg ?_
      refine sp pMa ?_
      refine oNil ?_
      refine aRet ?_
      refine finIs rfl ?_
      simp_all [retOf, cmpI] <;> omega
    · skip
      refine aSkip ?_
      refine aSeq ?_
      refine aReg ?_
      refine sp pMa ?_
      refine oNil ?_
      refine aRet ?_
      refine finIs rfl ?_
      simp_all [retOf, cmpI] <;> omega
  · skip
    refine aSkip ?_
    refine aSeq ?_
    refine aSeq ?_
    refine aReg ?_
    refine sp pM ?_
    refine oNil ?_
    refine aCond rfl (fun c13 => ?_) (fun c13 => ?_)
    · skip
      refine aSeq ?_
      refine aReg ?_
      refine sp pMa ?_
      refine oNil ?_
      refine aRet ?_
      refine finIs rfl ?_
      simp_all [retOf, cmpI] <;> omega
    · skip
      refine aSkip ?_
      refine aSeq ?_
      refine aSeq ?_
      refine aReg ?_
      refine sp pM ?_
      refine sp pM ?_
      refine sp pB ?_
      refine oNil ?_
      refine aCondDec rfl (fun c16 => ?_) (fun c16 => ?_)
      · skip
        refine aSeq ?_
        refine aReg ?_
        refine sp pMa ?_
        refine oNil ?_
        refine aRet ?_
        refine finIs rfl ?_
        simp_all [retOf, cmpI] <;> omega
      · skip
        refine aSkip ?_
        refine aSeq ?_
        refine aSeq ?_
        refine aReg ?_
        refine sp pM ?_
        refine sp pM ?_
        refine sp pB ?_
        refine oNil ?_
        refine aCondDec rfl (fun c19 => ?_) (fun c19 => ?_)
        · skip
          refine aSeq ?_
          refine aReg ?_
          refine sp pMa ?_
          refine oNil ?_
          refine aRet ?_
          refine finIs rfl ?_
          simp_all [retOf, cmpI] <;> omega
        · skip
          refine aSkip ?_
          refine aSeq ?_
          refine aReg ?_
          refine sp pMa ?_
          refine oNil ?_
          refine aRet ?_
          refine finIs rfl ?_
          simp_all [retOf, cmpI] <;> omega
/- cmp.Or[int] -/
set_option maxRecDepth 100000 in
set_option maxHeartbeats 400000 in
theorem cmp_Or (xs : List Int) (hx : xs.length ≤ 1000 := by simp) : Triple Try.prog 173 [.sl 1 (xs.map intA)] [] (Is (.v (.int .i64 (orI xs))) []) := by
  refine triple_of Try.func173 rfl (by kernel_rfl) rfl (by simp) ?_
  refine aSeq ?_
  refine aReg ?_
  refine sp pMa ?_
  refine oNil ?_
  refine aSeq ?_
  refine aReg ?_
  refine sp pMa ?_
  refine oNil ?_
  refine aSeq ?_
  refine aSeq ?_
  refine aReg ?_
  refine sp pM ?_
  refine sp (by first | exact pLm sl_25 | exact pLs sl_25) ?_
  refine sp pM ?_
  refine oNil ?_
  refine aBlock ?_
  refine loopF (α := Nat) (kept := [(3, _), (6, _), (7, _)]) (fun i => i ≤ xs.length ∧ orI (xs.drop i) = orI xs) (fun i => [(8, .int i)]) (fun i => []) (fun i => xs.length - i) 0 ?_ ⟨gInt rfl (by first | rfl | omega | simp), rfl, rfl, rfl, trivial⟩ (by repeat constructor) ?_
  · skip
    exact ⟨by omega, rfl⟩
  · rintro i ⟨hi, ho⟩
    refine aSeq ?_
    refine aReg ?_
    refine sp pB ?_
    refine oNil ?_
    refine aSeq ?_
    refine aCondDec rfl (fun c9 => ?_) (fun c9 => ?_)
    · skip
      refine aSkip ?_
      refine aSeq ?_
      refine aBlock ?_
      refine aSeq ?_
      refine aReg ?_
      first | refine sp (pIx es_25) ?_ | (refine obtSN 6 8 rfl rfl (by omega) (fun x10 hx10 => ?_); refine sp (pIs es_25 hx10) ?_) | (refine obtS 6 8 rfl rfl (by omega) (by omega) (fun x10 hx10 => ?_); refine sp (pIs es_25 hx10) ?_) | refine sp (pIo es_25) ?_
      refine sr (rS1 ty_3) ?_
      refine sp pMa ?_
      refine oNil ?_
      refine aSeq ?_
      refine aReg ?_
      refine sp pM ?_
      refine sp pM ?_
      refine sp pB ?_
      refine oNil ?_
      refine aCondNe rfl (fun c14 => ?_) (fun c14 => ?_)
      · skip
        refine aSeq ?_
        refine aReg ?_
        refine sp pM ?_
        refine sp pMa ?_
        refine oNil ?_
        refine aRet ?_
        refine finIs rfl ?_
        show AV.int _ = AV.int _
        congr 2
        first | (rw [← ho, orI_drop hx10, if_pos (by assumption)]; done) | (rw [← ho, List.drop_of_length_le (by omega)]; rfl)
      · skip
        refine aSkip ?_
        refine aReg ?_
        refine sp pAd ?_
        refine sp pM ?_
        refine oNil ?_
        refine ⟨i + 1, ?_, by (try dsimp only); omega, ⟨gInt rfl (by first | rfl | omega | simp), rfl, rfl, rfl, trivial⟩, _, (by repeat constructor)⟩
        exact ⟨by omega, by rw [← ho, orI_drop hx10]; simp_all⟩
    · skip
      refine aExit rfl ?_
      refine aSeq ?_
      refine aReg ?_
      refine sp pM ?_
      refine sp pMa ?_
      refine oNil ?_
      refine aRet ?_
      refine finIs rfl ?_
      show AV.int _ = AV.int _
      congr 2
      first | (rw [← ho, orI_drop hx10, if_pos (by assumption)]; done) | (rw [← ho, List.drop_of_length_le (by omega)]; rfl)
structure Arc where
  f : Int
  t : Int
  c : Int
  deriving DecidableEq, Inhabited
def arcC (a : Arc) : List AV := [.int a.f, .int a.t, .int a.c]
def nodeB (n : Int) : Bool := decide (1 ≤ n) && decide (n ≤ 64)
def arcB (a : Arc) : Bool := nodeB a.f && nodeB a.t && !(a.f == a.t) && decide (1 ≤ a.c) && decide (a.c ≤ 1073741824)
def ltA (x y : Arc) : Prop := x.f < y.f ∨ x.f = y.f ∧ x.t < y.t
instance (x y : Arc) : Decidable (ltA x y) := by unfold ltA; infer_instance
/-- Arcs from a place on, behind the one ahead of it. -/
def arcsB : Option Arc → List Arc → Bool
  | _, [] => true
  | p, a :: l => arcB a && (match p with | none => true | some q => decide (ltA q a)) && arcsB (some a) l
def orderA (a b : Arc) : Int := orI [cmpI a.f b.f, cmpI a.t b.t]
theorem cmpI_ne {a b : Int} : cmpI a b ≠ 0 ↔ a ≠ b := by unfold cmpI; split <;> (try split) <;> omega
theorem cmpI_lt {a b : Int} : cmpI a b < 0 ↔ a < b := by unfold cmpI; split <;> (try split) <;> omega
theorem orderA_lt {a b : Arc} : orderA a b < 0 ↔ ltA a b := by
  simp only [orderA, orI, ltA]
  have h1 := cmpI_ne (a := a.f) (b := b.f)
  have h2 := cmpI_lt (a := a.f) (b := b.f)
  have h3 := cmpI_ne (a := a.t) (b := b.t)
  have h4 := cmpI_lt (a := a.t) (b := b.t)
  split
  · omega
  · split <;> omega
def ordA (p : Option Arc) (e : Arc) : Bool := match p with | none => true | some q => decide (orderA q e < 0)
theorem arcs_step {l : List Arc} {i : Nat} {e : Arc} {p : Option Arc} (h : l[i]? = some e) : arcsB p (l.drop i) = (arcB e && ordA p e && arcsB (some e) (l.drop (i + 1))) := by
  rw [drop_step h]
  cases p with
  | none => rfl
  | some q => simp only [arcsB, ordA, orderA_lt]
theorem arcsB_all : ∀ {l : List Arc} {p : Option Arc}, arcsB p l = true → ∀ e ∈ l, arcB e = true
  | [], _, _, e, he => by simp at he
  | x :: l, p, h, e, he => by
    simp only [arcsB, Bool.and_eq_true] at h
    rcases List.mem_cons.1 he with rfl | he
    · exact h.1.1
    · exact arcsB_all h.2 e he
theorem ltA_trans {x y z : Arc} (h1 : ltA x y) (h2 : ltA y z) : ltA x z := by unfold ltA at *; omega
theorem arcsB_lt : ∀ {l : List Arc} {q : Arc}, arcsB (some q) l = true → (q :: l).Pairwise ltA
  | [], q, _ => by simp
  | x :: l, q, h => by
    simp only [arcsB, Bool.and_eq_true, decide_eq_true_eq] at h
    have ih := arcsB_lt h.2
    refine List.pairwise_cons.2 ⟨fun y hy => ?_, ih⟩
    rcases List.mem_cons.1 hy with rfl | hy
    · exact h.1.2
    · exact ltA_trans h.1.2 ((List.pairwise_cons.1 ih).1 y hy)
theorem arcsB_sorted {l : List Arc} (h : arcsB none l = true) : l.Pairwise ltA := by
  cases l with
  | nil => exact .nil
  | cons x l =>
    simp only [arcsB, Bool.and_eq_true] at h
    exact arcsB_lt h.2
def AOk (a : Arc) : Prop := 1 ≤ a.f ∧ a.f ≤ 64 ∧ 1 ≤ a.t ∧ a.t ≤ 64 ∧ a.f ≠ a.t ∧ 1 ≤ a.c ∧ a.c ≤ 1073741824
theorem AOk.of {a : Arc} (h : arcB a = true) : AOk a := by
  simp only [arcB, nodeB, Bool.and_eq_true, decide_eq_true_eq, Bool.not_eq_true', beq_eq_false_iff_ne] at h
  unfold AOk
  omega
theorem arcs_ok {l : List Arc} (h : arcsB none l = true) : ∀ a ∈ l, AOk a := fun a ha => AOk.of (arcsB_all h a ha)
/- graph.node -/
set_option maxRecDepth 100000 in
set_option maxHeartbeats 400000 in
theorem graph_node {n : Int} : Triple Try.prog 120 [.int n] [] (Is (.v (.bool (nodeB n))) []) := by
  refine triple_of Try.func120 rfl (by kernel_rfl) rfl (by simp) ?_
  refine aSeq ?_
  refine aReg ?_
  refine sp pMa ?_
  refine oNil ?_
  refine aSeq ?_
  refine aReg ?_
  refine sp pM ?_
  refine sp pB ?_
  refine sp pM ?_
  refine oSplitDec 5 rfl (fun c5 => ?_) (fun c5 => ?_)
  · skip
    refine gp pM ?_
    refine gp pB ?_
    refine sp pK ?_
    refine sp pMa ?_
    refine oNil ?_
    refine aRet ?_
    refine finIs rfl ?_
    simp [retOf, nodeB]
    omega
  · skip
    refine gf ?_
    refine gf ?_
    refine sp pK ?_
    refine sp pMa ?_
    refine oNil ?_
    refine aRet ?_
    refine finIs rfl ?_
    simp [retOf, nodeB]
    omega
/- graph.order -/
def graph_order_r1_T : Bool × List (List Nat × List Nat) := (true, [([], []), ([0], [0]), ([], []), ([2], [2]), ([1, 3], [1, 3]), ([], []), ([5], [5]), ([], []), ([7], [7]), ([6, 8, 4], [6, 8]), ([4, 9], [4, 9]), ([10, 9], [10]), ([11, 11, 0, 1, 2, 3, 4, 5, 6, 7, 8, 9, 10, 11], [11])])
def graph_order_r1_B : List Nat := [0, 1, 0, 4, 15, 0, 32, 0, 128, 511, 1023, 2047, 4095]
theorem graph_order_r1_t : Go.Proofs.YtmcannmjielalaaW.PrintLast.rtab .any (Go.Proofs.YtmcannmjielalaaW.PrintLast.opsOf Try.f121 1) = graph_order_r1_T := by kernel_rfl
theorem graph_order_r1_b : Go.Proofs.YtmcannmjielalaaW.PrintLast.waitsOk graph_order_r1_T.2 graph_order_r1_B = true := by kernel_rfl
set_option maxRecDepth 100000 in
set_option maxHeartbeats 400000 in
theorem graph_order {a b : Arc} : Triple Try.prog 121 [.agg (arcC a), .agg (arcC b)] [] (Is (.v (.int .i64 (orderA a b))) []) := by
  refine triple_of Try.func121 rfl (by kernel_rfl) rfl (by simp) ?_
  refine aSeq ?_
  refine aReg ?_
  refine sq ?_
  refine qBox rfl rfl (by decide) rfl rfl (fun b2 => ?_)
  refine sq ?_
  refine qBox rfl rfl (by decide) rfl rfl (fun b3 => ?_)
  refine sp pMa ?_
  refine oNil ?_
  refine aSeq ?_
  refine aDrawT graph_order_r1_t graph_order_r1_b [] 13 #[false, false, false, false, false, false, false, false, false, false, false, false, false] (by kernel_rfl) rfl rfl (fun HT => ?_)
  refine dp HT 0 rfl (pFb fd_36_0) ?_
  refine dr HT 1 rfl (rB1 ty_3) ?_
  refine dp HT 2 rfl (pFb fd_36_0) ?_
  refine dr HT 3 rfl (rB1 ty_3) ?_
  refine dp HT 5 rfl (pFb fd_36_1) ?_
  refine dr HT 6 rfl (rB1 ty_3) ?_
  refine dp HT 7 rfl (pFb fd_36_1) ?_
  refine dr HT 8 rfl (rB1 ty_3) ?_
  refine dGo ?_
  refine e1 HT 4 rfl ?_
  refine cv rfl rfl rfl (lents_refl _) cmp_Compare ?_
  refine e1 HT 9 rfl ?_
  refine cv rfl rfl rfl (lents_refl _) cmp_Compare ?_
  refine e1 HT 10 rfl ?_
  refine qLit (l := [_, _]) rfl rfl (by decide) us_25 ty_3 ze_3 rfl (by decide) (by decide) rfl rfl rfl (fun b15 => ?_)
  refine e1 HT 11 rfl ?_
  refine cv rfl rfl rfl (by repeat (first | exact .nil | refine .cons (.sl (by repeat (first | exact List.mem_cons_self | apply List.mem_cons_of_mem)) (by first | rfl | simp)) ?_ | refine .cons (.same _) ?_)) (cmp_Or [cmpI a.f b.f, cmpI a.t b.t]) ?_
  refine ePure (i := 12) #[true, true, true, true, true, true, true, true, true, true, true, true, true] rfl rfl rfl (HT.any (by kernel_rfl)) (by exact pMa) (by decide) ?_
  refine eE HT ?_
  clear HT
  refine aRet ?_
  refine finIs rfl ?_
  rfl
/- graph.Check -/
def graph_Check_r4_T : Bool × List (List Nat × List Nat) := (true, [([], []), ([0], [0]), ([1], [1]), ([2], [2]), ([3, 2], [3]), ([4], [4]), ([5, 4], [4, 5]), ([6, 4, 4], [4, 6]), ([7, 4], [4, 7]), ([4, 8], [4, 8]), ([9, 7], [9]), ([10], [10]), ([11, 10], [10, 11]), ([10], [10]), ([13, 10], [10, 13]), ([12, 14, 10], [10, 12, 14]), ([10, 15], [10, 15]), ([16, 10], [16]), ([17], [17]), ([18, 17], [17, 18]), ([19, 17], [17, 19]), ([17, 20], [17, 20]), ([21, 17], [21]), ([22], [22]), ([23, 22], [22, 23]), ([24, 22], [22, 24]), ([22, 25], [22, 25]), ([26, 22], [26]), ([27], [27]), ([28, 27], [27, 28]), ([29, 27, 27], [27, 29]), ([30], [30]), ([30], [30]), ([32, 30], [30, 32]), ([31, 33, 30], [30, 31, 33]), ([34, 30], [30, 34]), ([30], [30]), ([35, 36, 30, 30], [30, 35, 36]), ([37, 30], [30, 37]), ([30, 38, 27], [27, 30, 38]), ([27, 39], [27, 39])])
def graph_Check_r4_B : List Nat := [0, 1, 3, 7, 15, 31, 63, 127, 255, 511, 1023, 2047, 4095, 2047, 10239, 32767, 65535, 131071, 262143, 524287, 1048575, 2097151, 4194303, 8388607, 16777215, 33554431, 67108863, 134217727, 268435455, 536870911, 1073741823, 2147483647, 2147483647, 6442450943, 17179869183, 34359738367, 2147483647, 137438953471, 274877906943, 549755813887, 1099511627775]
theorem graph_Check_r4_t : Go.Proofs.YtmcannmjielalaaW.PrintLast.rtab .any (Go.Proofs.YtmcannmjielalaaW.PrintLast.opsOf Try.f30 4) = graph_Check_r4_T := by kernel_rfl
theorem graph_Check_r4_b : Go.Proofs.YtmcannmjielalaaW.PrintLast.waitsOk graph_Check_r4_T.2 graph_Check_r4_B = true := by kernel_rfl
set_option maxRecDepth 100000 in
set_option maxHeartbeats 2000000 in
theorem graph_Check {l : List Arc} (hl : l.length ≤ 1000000 := by omega) : Triple Try.prog 30 [.sl 3 (l.map arcC)] [] (Is (.v (.int .i64 (if arcsB none l then 0 else 1))) []) := by
  refine triple_of Try.func30 rfl (by kernel_rfl) rfl (by simp) ?_
  refine aSeq ?_
  refine aReg ?_
  refine sp pMa ?_
  refine oNil ?_
  refine aSeq ?_
  refine aSeq ?_
  refine aReg ?_
  refine sp pM ?_
  refine sp (by first | exact pLm sl_22 | exact pLs sl_22) ?_
  refine sp pM ?_
  refine oNil ?_
  refine aBlock ?_
  refine loopF (α := Nat) (kept := [(0, _), (5, _), (6, _)]) (fun i => i ≤ l.length ∧ arcsB none l = arcsB (prevA l i) (l.drop i)) (fun i => [(7, .int i)]) (fun i => []) (fun i => l.length - i) 0 ?_ ⟨gInt rfl (by first | rfl | omega | simp), rfl, rfl, rfl, trivial⟩ (by repeat constructor) ?_
  · skip
    exact ⟨by omega, rfl⟩
  · rintro i ⟨hi, hv⟩
    refine aSeq ?_
    refine aReg ?_
    refine sp pB ?_
    refine oNil ?_
    refine aSeq ?_
    refine aCondDec rfl (fun c8 => ?_) (fun c8 => ?_)
    · skip
      refine aSkip ?_
      refine aSeq ?_
      refine aBlock ?_
      refine aSeq ?_
      refine aReg ?_
      refine sp pM ?_
      first | refine sp (pIx es_22) ?_ | (refine obtSN 5 7 rfl rfl (by omega) (fun x10 hx10 => ?_); refine sp (pIs es_22 hx10) ?_) | (refine obtS 5 7 rfl rfl (by omega) (by omega) (fun x10 hx10 => ?_); refine sp (pIs es_22 hx10) ?_) | refine sp (pIo es_22) ?_
      refine sr (by first | exact rSW ty_36 rfl | exact rSA ty_36) ?_
      refine sq ?_
      refine qAlloc rfl rfl (by decide) ze_36 rfl (fun b4 => ?_)
      refine sp pMa ?_
      refine sa ?_
      refine oStW rfl rfl rfl rfl (by repeat constructor) ty_36 ?_
      refine oNil ?_
      refine aSeq ?_
      have hprev : 0 < i → ∃ b, l[((i : Int) - 1).toNat]? = some b := fun h => ⟨_, List.getElem?_eq_getElem (by omega)⟩
      refine aDrawT graph_Check_r4_t graph_Check_r4_b [] 41 #[false, false, false, false, false, false, false, false, false, false, false, false, false, false, false, false, false, false, false, false, false, false, false, false, false, false, false, false, false, false, false, false, false, false, false, false, false, false, false, false, false] (by kernel_rfl) rfl rfl (fun HT => ?_)
      refine dp HT 0 rfl (pFb fd_36_0) ?_
      refine dr HT 1 rfl (rB1 ty_3) ?_
      refine dGo ?_
      refine e1 HT 2 rfl ?_
      refine cv rfl rfl rfl (lents_refl _) graph_node ?_
      refine ef HT 3 rfl pNo ?_
      refine ef HT 4 rfl pM ?_
      refine eSplitNot 16 rfl (fun c16 => ?_) (fun c16 => ?_)
      · skip
        refine eS HT 5 rfl ?_
        refine eS HT 6 rfl ?_
        refine eS HT 7 rfl ?_
        refine eS HT 8 rfl ?_
        refine ef HT 9 rfl pK ?_
        refine ef HT 10 rfl pM ?_
        refine eS HT 11 rfl ?_
        refine eS HT 12 rfl ?_
        refine eS HT 13 rfl ?_
        refine eS HT 14 rfl ?_
        refine eS HT 15 rfl ?_
        refine ef HT 16 rfl pK ?_
        refine ef HT 17 rfl pM ?_
        refine eS HT 18 rfl ?_
        refine eS HT 19 rfl ?_
        refine eS HT 20 rfl ?_
        refine ef HT 21 rfl pK ?_
        refine ef HT 22 rfl pM ?_
        refine eS HT 23 rfl ?_
        refine eS HT 24 rfl ?_
        refine eS HT 25 rfl ?_
        refine ef HT 26 rfl pK ?_
        refine ef HT 27 rfl pM ?_
        refine eS HT 28 rfl ?_
        refine eS HT 29 rfl ?_
        refine eS HT 30 rfl ?_
        refine eS HT 31 rfl ?_
        refine eS HT 32 rfl ?_
        refine eS HT 33 rfl ?_
        refine eS HT 34 rfl ?_
        refine eS HT 35 rfl ?_
        refine eS HT 36 rfl ?_
        refine eS HT 37 rfl ?_
        refine eS HT 38 rfl ?_
        refine eS HT 39 rfl ?_
        refine ef HT 40 rfl pK ?_
        refine eE HT ?_
        clear HT
        refine aCondT rfl ?_
        refine aSeq ?_
        refine aReg ?_
        refine sp pMa ?_
        refine oNil ?_
        refine aRet ?_
        refine finIs rfl ?_
        have hs := arcs_step (p := prevA l i) hx10
        show AV.int 1 = AV.int _
        rw [hv, hs]
        by_cases h0 : i = 0 <;> simp_all [arcB, ordA, prevA]
        all_goals (intros; omega)
      · skip
        refine epG HT 5 rfl (pFb fd_36_1) ?_
        refine erG HT 6 rfl (rB1 ty_3) ?_
        refine e1G HT 7 rfl ?_
        refine cv rfl rfl rfl (lents_refl _) graph_node ?_
        refine efG HT 8 rfl pNo ?_
        refine ef HT 9 rfl pK ?_
        refine ef HT 10 rfl pM ?_
        refine eSplitNot 22 rfl (fun c22 => ?_) (fun c22 => ?_)
        · skip
          refine eS HT 11 rfl ?_
          refine eS HT 12 rfl ?_
          refine eS HT 13 rfl ?_
          refine eS HT 14 rfl ?_
          refine eS HT 15 rfl ?_
          refine ef HT 16 rfl pK ?_
          refine ef HT 17 rfl pM ?_
          refine eS HT 18 rfl ?_
          refine eS HT 19 rfl ?_
          refine eS HT 20 rfl ?_
          refine ef HT 21 rfl pK ?_
          refine ef HT 22 rfl pM ?_
          refine eS HT 23 rfl ?_
          refine eS HT 24 rfl ?_
          refine eS HT 25 rfl ?_
          refine ef HT 26 rfl pK ?_
          refine ef HT 27 rfl pM ?_
          refine eS HT 28 rfl ?_
          refine eS HT 29 rfl ?_
          refine eS HT 30 rfl ?_
          refine eS HT 31 rfl ?_
          refine eS HT 32 rfl ?_
          refine eS HT 33 rfl ?_
          refine eS HT 34 rfl ?_
          refine eS HT 35 rfl ?_
          refine eS HT 36 rfl ?_
          refine eS HT 37 rfl ?_
          refine eS HT 38 rfl ?_
          refine eS HT 39 rfl ?_
          refine ef HT 40 rfl pK ?_
          refine eE HT ?_
          clear HT
          refine aCondT rfl ?_
          refine aSeq ?_
          refine aReg ?_
          refine sp pMa ?_
          refine oNil ?_
          refine aRet ?_
          refine finIs rfl ?_
          have hs := arcs_step (p := prevA l i) hx10
          show AV.int 1 = AV.int _
          rw [hv, hs]
          by_cases h0 : i = 0 <;> simp_all [arcB, ordA, prevA]
          all_goals (intros; omega)
        · skip
          refine epG HT 11 rfl (pFb fd_36_0) ?_
          refine erG HT 12 rfl (rB1 ty_3) ?_
          refine epG HT 13 rfl (pFb fd_36_1) ?_
          refine erG HT 14 rfl (rB1 ty_3) ?_
          refine epG HT 15 rfl pB ?_
          refine ef HT 16 rfl pK ?_
          refine ef HT 17 rfl pM ?_
          refine eSplitEq 29 rfl (fun c29 => ?_) (fun c29 => ?_)
          · skip
            refine eS HT 18 rfl ?_
            refine eS HT 19 rfl ?_
            refine eS HT 20 rfl ?_
            refine ef HT 21 rfl pK ?_
            refine ef HT 22 rfl pM ?_
            refine eS HT 23 rfl ?_
            refine eS HT 24 rfl ?_
            refine eS HT 25 rfl ?_
            refine ef HT 26 rfl pK ?_
            refine ef HT 27 rfl pM ?_
            refine eS HT 28 rfl ?_
            refine eS HT 29 rfl ?_
            refine eS HT 30 rfl ?_
            refine eS HT 31 rfl ?_
            refine eS HT 32 rfl ?_
            refine eS HT 33 rfl ?_
            refine eS HT 34 rfl ?_
            refine eS HT 35 rfl ?_
            refine eS HT 36 rfl ?_
            refine eS HT 37 rfl ?_
            refine eS HT 38 rfl ?_
            refine eS HT 39 rfl ?_
            refine ef HT 40 rfl pK ?_
            refine eE HT ?_
            clear HT
            refine aCondT rfl ?_
            refine aSeq ?_
            refine aReg ?_
            refine sp pMa ?_
            refine oNil ?_
            refine aRet ?_
            refine finIs rfl ?_
            have hs := arcs_step (p := prevA l i) hx10
            show AV.int 1 = AV.int _
            rw [hv, hs]
            by_cases h0 : i = 0 <;> simp_all [arcB, ordA, prevA]
            all_goals (intros; omega)
          · skip
            refine epG HT 18 rfl (pFb fd_36_2) ?_
            refine erG HT 19 rfl (rB1 ty_3) ?_
            refine epG HT 20 rfl pB ?_
            refine ef HT 21 rfl pK ?_
            refine ef HT 22 rfl pM ?_
            refine eSplitDec 34 rfl (fun c34 => ?_) (fun c34 => ?_)
            · skip
              refine eS HT 23 rfl ?_
              refine eS HT 24 rfl ?_
              refine eS HT 25 rfl ?_
              refine ef HT 26 rfl pK ?_
              refine ef HT 27 rfl pM ?_
              refine eS HT 28 rfl ?_
              refine eS HT 29 rfl ?_
              refine eS HT 30 rfl ?_
              refine eS HT 31 rfl ?_
              refine eS HT 32 rfl ?_
              refine eS HT 33 rfl ?_
              refine eS HT 34 rfl ?_
              refine eS HT 35 rfl ?_
              refine eS HT 36 rfl ?_
              refine eS HT 37 rfl ?_
              refine eS HT 38 rfl ?_
              refine eS HT 39 rfl ?_
              refine ef HT 40 rfl pK ?_
              refine eE HT ?_
              clear HT
              refine aCondT rfl ?_
              refine aSeq ?_
              refine aReg ?_
              refine sp pMa ?_
              refine oNil ?_
              refine aRet ?_
              refine finIs rfl ?_
              have hs := arcs_step (p := prevA l i) hx10
              show AV.int 1 = AV.int _
              rw [hv, hs]
              by_cases h0 : i = 0 <;> simp_all [arcB, ordA, prevA]
              all_goals (intros; omega)
            · skip
              refine epG HT 23 rfl (pFb fd_36_2) ?_
              refine erG HT 24 rfl (rB1 ty_3) ?_
              refine epG HT 25 rfl pB ?_
              refine ef HT 26 rfl pK ?_
              refine ef HT 27 rfl pM ?_
              refine eSplitDec 39 rfl (fun c39 => ?_) (fun c39 => ?_)
              · skip
                refine eS HT 28 rfl ?_
                refine eS HT 29 rfl ?_
                refine eS HT 30 rfl ?_
                refine eS HT 31 rfl ?_
                refine eS HT 32 rfl ?_
                refine eS HT 33 rfl ?_
                refine eS HT 34 rfl ?_
                refine eS HT 35 rfl ?_
                refine eS HT 36 rfl ?_
                refine eS HT 37 rfl ?_
                refine eS HT 38 rfl ?_
                refine eS HT 39 rfl ?_
                refine ef HT 40 rfl pK ?_
                refine eE HT ?_
                clear HT
                refine aCondT rfl ?_
                refine aSeq ?_
                refine aReg ?_
                refine sp pMa ?_
                refine oNil ?_
                refine aRet ?_
                refine finIs rfl ?_
                have hs := arcs_step (p := prevA l i) hx10
                show AV.int 1 = AV.int _
                rw [hv, hs]
                by_cases h0 : i = 0 <;> simp_all [arcB, ordA, prevA]
                all_goals (intros; omega)
              · skip
                refine epG HT 28 rfl pM ?_
                refine epG HT 29 rfl pB ?_
                refine epG HT 30 rfl pM ?_
                refine eSplitDec 42 rfl (fun c42 => ?_) (fun c42 => ?_)
                · skip
                  refine epG HT 31 rfl pM ?_
                  refine epG HT 32 rfl pM ?_
                  refine epG HT 33 rfl pSu ?_
                  obtain ⟨b, hb⟩ := hprev (by omega)
                  have hb' : l[i - 1]? = some b := by rw [← hb]; congr 1; omega
                  first | refine epG HT 34 rfl (pIx es_22) ?_ | (refine obtEN 43 45 rfl rfl (by omega) (fun x46 hx46 => ?_); refine epG HT 34 rfl (pIs es_22 hx46) ?_) | (refine obtE 43 45 rfl rfl (by omega) (by omega) (fun x46 hx46 => ?_); refine epG HT 34 rfl (pIs es_22 hx46) ?_) | refine epG HT 34 rfl (pIo es_22) ?_
                  refine erG HT 35 rfl (by first | exact rSW ty_36 rfl | exact rSA ty_36) ?_
                  refine erG HT 36 rfl (by first | exact rBWa ty_36 | exact rBW ty_36 | exact rBA ty_36) ?_
                  refine e1G HT 37 rfl ?_
                  refine cv rfl rfl rfl (lents_refl _) graph_order ?_
                  refine efG HT 38 rfl pB ?_
                  refine efG HT 39 rfl pK ?_
                  refine ef HT 40 rfl pK ?_
                  refine eE HT ?_
                  clear HT
                  refine aCondDec rfl (fun c52 => ?_) (fun c52 => ?_)
                  · skip
                    refine aSeq ?_
                    refine aReg ?_
                    refine sp pMa ?_
                    refine oNil ?_
                    refine aRet ?_
                    refine finIs rfl ?_
                    have hs := arcs_step (p := prevA l i) hx10
                    show AV.int 1 = AV.int _
                    rw [hv, hs]
                    by_cases h0 : i = 0 <;> simp_all [arcB, ordA, prevA]
                    all_goals (intros; omega)
                  · skip
                    refine aSkip ?_
                    refine aReg ?_
                    refine sp pAd ?_
                    refine sp pM ?_
                    refine oNil ?_
                    refine ⟨i + 1, ?_, by (try dsimp only); omega, ⟨gInt rfl (by first | rfl | omega | simp), rfl, rfl, rfl, trivial⟩, _, (by repeat constructor)⟩
                    have hs := arcs_step (p := prevA l i) hx10
                    refine ⟨by omega, ?_⟩
                    rw [hv, hs, prevA_succ hx10]
                    by_cases h0 : i = 0 <;> simp_all [arcB, ordA, prevA]
                    all_goals (intros; omega)
                · skip
                  refine eS HT 31 rfl ?_
                  refine eS HT 32 rfl ?_
                  refine eS HT 33 rfl ?_
                  refine eS HT 34 rfl ?_
                  refine eS HT 35 rfl ?_
                  refine eS HT 36 rfl ?_
                  refine eS HT 37 rfl ?_
                  refine eS HT 38 rfl ?_
                  refine efG HT 39 rfl pK ?_
                  refine ef HT 40 rfl pK ?_
                  refine eE HT ?_
                  clear HT
                  refine aCondF rfl ?_
                  refine aSkip ?_
                  refine aReg ?_
                  refine sp pAd ?_
                  refine sp pM ?_
                  refine oNil ?_
                  refine ⟨i + 1, ?_, by (try dsimp only); omega, ⟨gInt rfl (by first | rfl | omega | simp), rfl, rfl, rfl, trivial⟩, _, (by repeat constructor)⟩
                  have hs := arcs_step (p := prevA l i) hx10
                  refine ⟨by omega, ?_⟩
                  rw [hv, hs, prevA_succ hx10]
                  by_cases h0 : i = 0 <;> simp_all [arcB, ordA, prevA]
                  all_goals (intros; omega)
    · skip
      refine aExit rfl ?_
      refine aSeq ?_
      refine aReg ?_
      refine sp pMa ?_
      refine oNil ?_
      refine aRet ?_
      refine finIs rfl ?_
      show AV.int 0 = AV.int _
      rw [hv, List.drop_of_length_le (by omega)]
      rfl
/- waymarkref24.May -/
def ref24_May_r7_T : Bool × List (List Nat × List Nat) := (true, [([], []), ([0], [0]), ([1], [1]), ([2], [2]), ([2], [2]), ([4, 2], [2, 4]), ([3, 5, 2], [2, 3, 5]), ([6, 2], [2, 6]), ([7, 2], [2, 7]), ([2], [2]), ([9, 2], [2, 9]), ([8, 10, 2], [2, 8, 10]), ([11, 2, 2], [2, 11]), ([12], [12]), ([12], [12]), ([14, 12], [12, 14]), ([13, 15, 12], [12, 13, 15]), ([16, 12], [12, 16]), ([17, 12], [12, 17]), ([12], [12]), ([19, 12], [12, 19]), ([18, 20, 12], [12, 18, 20]), ([21, 12, 12], [12, 21]), ([22], [22]), ([22], [22]), ([24, 22], [22, 24]), ([23, 25, 22], [22, 23, 25]), ([26, 22], [22, 26]), ([27, 22], [22, 27]), ([22], [22]), ([29, 22], [22, 29]), ([28, 30, 22], [22, 28, 30]), ([22, 31, 12], [12, 22, 31]), ([12, 32, 2], [2, 12, 32]), ([2, 33], [2, 33])])
def ref24_May_r7_B : List Nat := [0, 1, 3, 7, 7, 23, 63, 127, 255, 7, 519, 2047, 4095, 8191, 8191, 24575, 65535, 131071, 262143, 8191, 532479, 2097151, 4194303, 8388607, 8388607, 25165823, 67108863, 134217727, 268435455, 8388607, 545259519, 2147483647, 4294967295, 8589934591, 17179869183]
theorem ref24_May_r7_t : Go.Proofs.YtmcannmjielalaaW.PrintLast.rtab .any (Go.Proofs.YtmcannmjielalaaW.PrintLast.opsOf Try.f31 7) = ref24_May_r7_T := by kernel_rfl
theorem ref24_May_r7_b : Go.Proofs.YtmcannmjielalaaW.PrintLast.waitsOk ref24_May_r7_T.2 ref24_May_r7_B = true := by kernel_rfl
set_option maxRecDepth 100000 in
set_option maxHeartbeats 2000000 in
theorem ref24_May {l : List Arc} (hl : l.length ≤ 1000000 := by omega) : Triple Try.prog 31 [.sl 3 (l.map arcC)] [] (Is (.v (.bool (arcsB none l))) []) := by
  refine triple_of Try.func31 rfl (by kernel_rfl) rfl (by simp) ?_
  refine aSeq ?_
  refine aReg ?_
  refine sp pMa ?_
  refine oNil ?_
  refine aSeq ?_
  refine aSeq ?_
  refine aReg ?_
  refine sp pMa ?_
  refine oNil ?_
  refine aBlock ?_
  refine loopF (α := Nat) (kept := [(0, _)]) (fun i => i ≤ l.length ∧ arcsB none l = arcsB (prevA l i) (l.drop i)) (fun i => [(3, .int i)]) (fun i => []) (fun i => l.length - i) 0 ?_ ⟨gInt rfl (by first | rfl | omega | simp), rfl, trivial⟩ (by repeat constructor) ?_
  · skip
    exact ⟨by omega, rfl⟩
  · rintro i ⟨hi, hv⟩
    refine aSeq ?_
    refine aSeq ?_
    refine aReg ?_
    refine sp pM ?_
    refine sp pM ?_
    refine sp (by first | exact pLm sl_22 | exact pLs sl_22) ?_
    refine sp pB ?_
    refine oNil ?_
    refine aCondDec rfl (fun c8 => ?_) (fun c8 => ?_)
    · skip
      refine aSkip ?_
      refine aSeq ?_
      refine aBlock ?_
      refine aSeq ?_
      refine aReg ?_
      refine sp pM ?_
      refine sp pM ?_
      first | refine sp (pIx es_22) ?_ | (refine obtSN 11 12 rfl rfl (by omega) (fun x13 hx13 => ?_); refine sp (pIs es_22 hx13) ?_) | (refine obtS 11 12 rfl rfl (by omega) (by omega) (fun x13 hx13 => ?_); refine sp (pIs es_22 hx13) ?_) | refine sp (pIo es_22) ?_
      refine sr (by first | exact rSW ty_36 rfl | exact rSA ty_36) ?_
      refine sq ?_
      refine qAlloc rfl rfl (by decide) ze_36 rfl (fun b4 => ?_)
      refine sa ?_
      refine oStW rfl rfl rfl rfl (by repeat constructor) ty_36 ?_
      refine oNil ?_
      refine aSeq ?_
      refine aSeq ?_
      refine aReg ?_
      refine sp (pFb fd_36_0) ?_
      refine sr (rB1 ty_3) ?_
      refine sp pB ?_
      refine sp pM ?_
      refine oSplitDec 18 rfl (fun c18 => ?_) (fun c18 => ?_)
      · skip
        refine gf ?_
        refine gf ?_
        refine gf ?_
        refine sp pK ?_
        refine sp pM ?_
        refine gf ?_
        refine gf ?_
        refine gf ?_
        refine sp pK ?_
        refine sp pM ?_
        refine gf ?_
        refine gf ?_
        refine gf ?_
        refine sp pK ?_
        refine sp pM ?_
        refine gf ?_
        refine gf ?_
        refine gf ?_
        refine gf ?_
        refine gf ?_
        refine sp pK ?_
        refine sp pM ?_
        refine gf ?_
        refine gf ?_
        refine gf ?_
        refine sp pK ?_
        refine sp pM ?_
        refine gf ?_
        refine gf ?_
        refine gf ?_
        refine sp pK ?_
        refine oNil ?_
        refine aCondT rfl ?_
        refine aSeq ?_
        refine aReg ?_
        refine sp pMa ?_
        refine oNil ?_
        refine aRet ?_
        refine finIs rfl ?_
        have hs := arcs_step (p := prevA l i) hx13
        show AV.v (.bool false) = AV.v (.bool (arcsB none l))
        rw [hv, hs]
        by_cases h0 : i = 0 <;> simp_all [arcB, nodeB, ordA, prevA, orderA_lt, ltA]
        all_goals (intros; omega)
      · skip
        refine gp (pFb fd_36_0) ?_
        refine gr (rB1 ty_3) ?_
        refine gp pB ?_
        refine sp pK ?_
        refine sp pM ?_
        refine oSplitDec 23 rfl (fun c23 => ?_) (fun c23 => ?_)
        · skip
          refine gf ?_
          refine gf ?_
          refine gf ?_
          refine sp pK ?_
          refine sp pM ?_
          refine gf ?_
          refine gf ?_
          refine gf ?_
          refine sp pK ?_
          refine sp pM ?_
          refine gf ?_
          refine gf ?_
          refine gf ?_
          refine gf ?_
          refine gf ?_
          refine sp pK ?_
          refine sp pM ?_
          refine gf ?_
          refine gf ?_
          refine gf ?_
          refine sp pK ?_
          refine sp pM ?_
          refine gf ?_
          refine gf ?_
          refine gf ?_
          refine sp pK ?_
          refine oNil ?_
          refine aCondT rfl ?_
          refine aSeq ?_
          refine aReg ?_
          refine sp pMa ?_
          refine oNil ?_
          refine aRet ?_
          refine finIs rfl ?_
          have hs := arcs_step (p := prevA l i) hx13
          show AV.v (.bool false) = AV.v (.bool (arcsB none l))
          rw [hv, hs]
          by_cases h0 : i = 0 <;> simp_all [arcB, nodeB, ordA, prevA, orderA_lt, ltA]
          all_goals (intros; omega)
        · skip
          refine gp (pFb fd_36_1) ?_
          refine gr (rB1 ty_3) ?_
          refine gp pB ?_
          refine sp pK ?_
          refine sp pM ?_
          refine oSplitDec 28 rfl (fun c28 => ?_) (fun c28 => ?_)
          · skip
            refine gf ?_
            refine gf ?_
            refine gf ?_
            refine sp pK ?_
            refine sp pM ?_
            refine gf ?_
            refine gf ?_
            refine gf ?_
            refine gf ?_
            refine gf ?_
            refine sp pK ?_
            refine sp pM ?_
            refine gf ?_
            refine gf ?_
            refine gf ?_
            refine sp pK ?_
            refine sp pM ?_
            refine gf ?_
            refine gf ?_
            refine gf ?_
            refine sp pK ?_
            refine oNil ?_
            refine aCondT rfl ?_
            refine aSeq ?_
            refine aReg ?_
            refine sp pMa ?_
            refine oNil ?_
            refine aRet ?_
            refine finIs rfl ?_
            have hs := arcs_step (p := prevA l i) hx13
            show AV.v (.bool false) = AV.v (.bool (arcsB none l))
            rw [hv, hs]
            by_cases h0 : i = 0 <;> simp_all [arcB, nodeB, ordA, prevA, orderA_lt, ltA]
            all_goals (intros; omega)
          · skip
            refine gp (pFb fd_36_1) ?_
            refine gr (rB1 ty_3) ?_
            refine gp pB ?_
            refine sp pK ?_
            refine sp pM ?_
            refine oSplitDec 33 rfl (fun c33 => ?_) (fun c33 => ?_)
            · skip
              refine gf ?_
              refine gf ?_
              refine gf ?_
              refine gf ?_
              refine gf ?_
              refine sp pK ?_
              refine sp pM ?_
              refine gf ?_
              refine gf ?_
              refine gf ?_
              refine sp pK ?_
              refine sp pM ?_
              refine gf ?_
              refine gf ?_
              refine gf ?_
              refine sp pK ?_
              refine oNil ?_
              refine aCondT rfl ?_
              refine aSeq ?_
              refine aReg ?_
              refine sp pMa ?_
              refine oNil ?_
              refine aRet ?_
              refine finIs rfl ?_
              have hs := arcs_step (p := prevA l i) hx13
              show AV.v (.bool false) = AV.v (.bool (arcsB none l))
              rw [hv, hs]
              by_cases h0 : i = 0 <;> simp_all [arcB, nodeB, ordA, prevA, orderA_lt, ltA]
              all_goals (intros; omega)
            · skip
              refine gp (pFb fd_36_0) ?_
              refine gr (rB1 ty_3) ?_
              refine gp (pFb fd_36_1) ?_
              refine gr (rB1 ty_3) ?_
              refine gp pB ?_
              refine sp pK ?_
              refine sp pM ?_
              refine oSplitEq 40 rfl (fun c40 => ?_) (fun c40 => ?_)
              · skip
                refine gf ?_
                refine gf ?_
                refine gf ?_
                refine sp pK ?_
                refine sp pM ?_
                refine gf ?_
                refine gf ?_
                refine gf ?_
                refine sp pK ?_
                refine oNil ?_
                refine aCondT rfl ?_
                refine aSeq ?_
                refine aReg ?_
                refine sp pMa ?_
                refine oNil ?_
                refine aRet ?_
                refine finIs rfl ?_
                have hs := arcs_step (p := prevA l i) hx13
                show AV.v (.bool false) = AV.v (.bool (arcsB none l))
                rw [hv, hs]
                by_cases h0 : i = 0 <;> simp_all [arcB, nodeB, ordA, prevA, orderA_lt, ltA]
                all_goals (intros; omega)
              · skip
                refine gp (pFb fd_36_2) ?_
                refine gr (rB1 ty_3) ?_
                refine gp pB ?_
                refine sp pK ?_
                refine sp pM ?_
                refine oSplitDec 45 rfl (fun c45 => ?_) (fun c45 => ?_)
                · skip
                  refine gf ?_
                  refine gf ?_
                  refine gf ?_
                  refine sp pK ?_
                  refine oNil ?_
                  refine aCondT rfl ?_
                  refine aSeq ?_
                  refine aReg ?_
                  refine sp pMa ?_
                  refine oNil ?_
                  refine aRet ?_
                  refine finIs rfl ?_
                  have hs := arcs_step (p := prevA l i) hx13
                  show AV.v (.bool false) = AV.v (.bool (arcsB none l))
                  rw [hv, hs]
                  by_cases h0 : i = 0 <;> simp_all [arcB, nodeB, ordA, prevA, orderA_lt, ltA]
                  all_goals (intros; omega)
                · skip
                  refine gp (pFb fd_36_2) ?_
                  refine gr (rB1 ty_3) ?_
                  refine gp pB ?_
                  refine sp pK ?_
                  refine oNil ?_
                  refine aCondDec rfl (fun c49 => ?_) (fun c49 => ?_)
                  · skip
                    refine aSeq ?_
                    refine aReg ?_
                    refine sp pMa ?_
                    refine oNil ?_
                    refine aRet ?_
                    refine finIs rfl ?_
                    have hs := arcs_step (p := prevA l i) hx13
                    show AV.v (.bool false) = AV.v (.bool (arcsB none l))
                    rw [hv, hs]
                    by_cases h0 : i = 0 <;> simp_all [arcB, nodeB, ordA, prevA, orderA_lt, ltA]
                    all_goals (intros; omega)
                  · skip
                    refine aSkip ?_
                    refine aSeq ?_
                    have hprev : 0 < i → ∃ b, l[((i : Int) - 1).toNat]? = some b := fun h => ⟨_, List.getElem?_eq_getElem (by omega)⟩
                    refine aDrawT ref24_May_r7_t ref24_May_r7_b [] 35 #[false, false, false, false, false, false, false, false, false, false, false, false, false, false, false, false, false, false, false, false, false, false, false, false, false, false, false, false, false, false, false, false, false, false, false] (by kernel_rfl) rfl rfl (fun HT => ?_)
                    refine dp HT 0 rfl pM ?_
                    refine dp HT 1 rfl pB ?_
                    refine dp HT 2 rfl pM ?_
                    refine dSplitDec 52 rfl (fun c52 => ?_) (fun c52 => ?_)
                    · skip
                      refine dpG HT 3 rfl pM ?_
                      refine dpG HT 4 rfl pM ?_
                      refine dpG HT 5 rfl pSu ?_
                      obtain ⟨b, hb⟩ := hprev (by omega)
                      have hb' : l[i - 1]? = some b := by rw [← hb]; congr 1; omega
                      first | refine dpG HT 6 rfl (pIx es_22) ?_ | (refine obtDN 53 55 rfl rfl (by omega) (fun x56 hx56 => ?_); refine dpG HT 6 rfl (pIs es_22 hx56) ?_) | (refine obtD 53 55 rfl rfl (by omega) (by omega) (fun x56 hx56 => ?_); refine dpG HT 6 rfl (pIs es_22 hx56) ?_) | refine dpG HT 6 rfl (pIo es_22) ?_
                      refine dpG HT 7 rfl (pFs fd_36_0) ?_
                      refine drG HT 8 rfl (rS1 ty_3) ?_
                      refine dpG HT 9 rfl (pFb fd_36_0) ?_
                      refine drG HT 10 rfl (rB1 ty_3) ?_
                      refine dpG HT 11 rfl pB ?_
                      refine dpG HT 12 rfl pM ?_
                      refine dSplitDec 62 rfl (fun c62 => ?_) (fun c62 => ?_)
                      · skip
                        refine dS HT 13 rfl ?_
                        refine dS HT 14 rfl ?_
                        refine dS HT 15 rfl ?_
                        refine dS HT 16 rfl ?_
                        refine dS HT 17 rfl ?_
                        refine dS HT 18 rfl ?_
                        refine dS HT 19 rfl ?_
                        refine dS HT 20 rfl ?_
                        refine dS HT 21 rfl ?_
                        refine dS HT 22 rfl ?_
                        refine dS HT 23 rfl ?_
                        refine dS HT 24 rfl ?_
                        refine dS HT 25 rfl ?_
                        refine dS HT 26 rfl ?_
                        refine dS HT 27 rfl ?_
                        refine dS HT 28 rfl ?_
                        refine dS HT 29 rfl ?_
                        refine dS HT 30 rfl ?_
                        refine dS HT 31 rfl ?_
                        refine dS HT 32 rfl ?_
                        refine dpG HT 33 rfl pK ?_
                        refine dp HT 34 rfl pK ?_
                        refine dE HT ?_
                        clear HT
                        refine aCondT rfl ?_
                        refine aSeq ?_
                        refine aReg ?_
                        refine sp pMa ?_
                        refine oNil ?_
                        refine aRet ?_
                        refine finIs rfl ?_
                        have hs := arcs_step (p := prevA l i) hx13
                        show AV.v (.bool false) = AV.v (.bool (arcsB none l))
                        rw [hv, hs]
                        by_cases h0 : i = 0 <;> simp_all [arcB, nodeB, ordA, prevA, orderA_lt, ltA]
                        all_goals (intros; omega)
                      · skip
                        refine dpG HT 13 rfl pM ?_
                        refine dpG HT 14 rfl pM ?_
                        refine dpG HT 15 rfl pSu ?_
                        first | refine dpG HT 16 rfl (pIx es_22) ?_ | (refine obtDN 63 65 rfl rfl (by omega) (fun x66 hx66 => ?_); refine dpG HT 16 rfl (pIs es_22 hx66) ?_) | (refine obtD 63 65 rfl rfl (by omega) (by omega) (fun x66 hx66 => ?_); refine dpG HT 16 rfl (pIs es_22 hx66) ?_) | refine dpG HT 16 rfl (pIo es_22) ?_
                        refine dpG HT 17 rfl (pFs fd_36_0) ?_
                        refine drG HT 18 rfl (rS1 ty_3) ?_
                        refine dpG HT 19 rfl (pFb fd_36_0) ?_
                        refine drG HT 20 rfl (rB1 ty_3) ?_
                        refine dpG HT 21 rfl pB ?_
                        refine dpG HT 22 rfl pM ?_
                        refine dSplitEq 72 rfl (fun c72 => ?_) (fun c72 => ?_)
                        · skip
                          refine dpG HT 23 rfl pM ?_
                          refine dpG HT 24 rfl pM ?_
                          refine dpG HT 25 rfl pSu ?_
                          first | refine dpG HT 26 rfl (pIx es_22) ?_ | (refine obtDN 73 75 rfl rfl (by omega) (fun x76 hx76 => ?_); refine dpG HT 26 rfl (pIs es_22 hx76) ?_) | (refine obtD 73 75 rfl rfl (by omega) (by omega) (fun x76 hx76 => ?_); refine dpG HT 26 rfl (pIs es_22 hx76) ?_) | refine dpG HT 26 rfl (pIo es_22) ?_
                          refine dpG HT 27 rfl (pFs fd_36_1) ?_
                          refine drG HT 28 rfl (rS1 ty_3) ?_
                          refine dpG HT 29 rfl (pFb fd_36_1) ?_
                          refine drG HT 30 rfl (rB1 ty_3) ?_
                          refine dpG HT 31 rfl pB ?_
                          refine dpG HT 32 rfl pK ?_
                          refine dpG HT 33 rfl pK ?_
                          refine dp HT 34 rfl pK ?_
                          refine dE HT ?_
                          clear HT
                          refine aCondDec rfl (fun c84 => ?_) (fun c84 => ?_)
                          · skip
                            refine aSeq ?_
                            refine aReg ?_
                            refine sp pMa ?_
                            refine oNil ?_
                            refine aRet ?_
                            refine finIs rfl ?_
                            have hs := arcs_step (p := prevA l i) hx13
                            show AV.v (.bool false) = AV.v (.bool (arcsB none l))
                            rw [hv, hs]
                            by_cases h0 : i = 0 <;> simp_all [arcB, nodeB, ordA, prevA, orderA_lt, ltA]
                            all_goals (intros; omega)
                          · skip
                            refine aSkip ?_
                            refine aReg ?_
                            refine sp pM ?_
                            refine sp pAd ?_
                            refine sp pMa ?_
                            refine oNil ?_
                            refine ⟨i + 1, ?_, by (try dsimp only); omega, ⟨gInt rfl (by first | rfl | omega | simp), rfl, trivial⟩, _, (by repeat constructor)⟩
                            have hs := arcs_step (p := prevA l i) hx13
                            refine ⟨by omega, ?_⟩
                            rw [hv, hs, prevA_succ hx13]
                            by_cases h0 : i = 0 <;> simp_all [arcB, nodeB, ordA, prevA, orderA_lt, ltA]
                            all_goals (intros; omega)
                        · skip
                          refine dS HT 23 rfl ?_
                          refine dS HT 24 rfl ?_
                          refine dS HT 25 rfl ?_
                          refine dS HT 26 rfl ?_
                          refine dS HT 27 rfl ?_
                          refine dS HT 28 rfl ?_
                          refine dS HT 29 rfl ?_
                          refine dS HT 30 rfl ?_
                          refine dS HT 31 rfl ?_
                          refine dpG HT 32 rfl pK ?_
                          refine dpG HT 33 rfl pK ?_
                          refine dp HT 34 rfl pK ?_
                          refine dE HT ?_
                          clear HT
                          refine aCondF rfl ?_
                          refine aSkip ?_
                          refine aReg ?_
                          refine sp pM ?_
                          refine sp pAd ?_
                          refine sp pMa ?_
                          refine oNil ?_
                          refine ⟨i + 1, ?_, by (try dsimp only); omega, ⟨gInt rfl (by first | rfl | omega | simp), rfl, trivial⟩, _, (by repeat constructor)⟩
                          have hs := arcs_step (p := prevA l i) hx13
                          refine ⟨by omega, ?_⟩
                          rw [hv, hs, prevA_succ hx13]
                          by_cases h0 : i = 0 <;> simp_all [arcB, nodeB, ordA, prevA, orderA_lt, ltA]
                          all_goals (intros; omega)
                    · skip
                      refine dS HT 3 rfl ?_
                      refine dS HT 4 rfl ?_
                      refine dS HT 5 rfl ?_
                      refine dS HT 6 rfl ?_
                      refine dS HT 7 rfl ?_
                      refine dS HT 8 rfl ?_
                      refine dS HT 9 rfl ?_
                      refine dS HT 10 rfl ?_
                      refine dS HT 11 rfl ?_
                      refine dS HT 12 rfl ?_
                      refine dS HT 13 rfl ?_
                      refine dS HT 14 rfl ?_
                      refine dS HT 15 rfl ?_
                      refine dS HT 16 rfl ?_
                      refine dS HT 17 rfl ?_
                      refine dS HT 18 rfl ?_
                      refine dS HT 19 rfl ?_
                      refine dS HT 20 rfl ?_
                      refine dS HT 21 rfl ?_
                      refine dS HT 22 rfl ?_
                      refine dS HT 23 rfl ?_
                      refine dS HT 24 rfl ?_
                      refine dS HT 25 rfl ?_
                      refine dS HT 26 rfl ?_
                      refine dS HT 27 rfl ?_
                      refine dS HT 28 rfl ?_
                      refine dS HT 29 rfl ?_
                      refine dS HT 30 rfl ?_
                      refine dS HT 31 rfl ?_
                      refine dS HT 32 rfl ?_
                      refine dS HT 33 rfl ?_
                      refine dp HT 34 rfl pK ?_
                      refine dE HT ?_
                      clear HT
                      refine aCondF rfl ?_
                      refine aSkip ?_
                      refine aReg ?_
                      refine sp pM ?_
                      refine sp pAd ?_
                      refine sp pMa ?_
                      refine oNil ?_
                      refine ⟨i + 1, ?_, by (try dsimp only); omega, ⟨gInt rfl (by first | rfl | omega | simp), rfl, trivial⟩, _, (by repeat constructor)⟩
                      have hs := arcs_step (p := prevA l i) hx13
                      refine ⟨by omega, ?_⟩
                      rw [hv, hs, prevA_succ hx13]
                      by_cases h0 : i = 0 <;> simp_all [arcB, nodeB, ordA, prevA, orderA_lt, ltA]
                      all_goals (intros; omega)
    · skip
      refine aExit rfl ?_
      refine aSeq ?_
      refine aReg ?_
      refine sp pMa ?_
      refine oNil ?_
      refine aRet ?_
      refine finIs rfl ?_
      show AV.v (.bool true) = AV.v (.bool _)
      rw [hv, List.drop_of_length_le (by omega)]
      rfl
end A
end Go.Proofs.Ytmcannmjielalaa
set_option linter.unusedVariables false
set_option linter.unusedSimpArgs false
namespace Go.Proofs.Ytmcannmjielalaa
namespace A
theorem op_Arc : OpC Try.prog 36 3 Arc arcC (fun _ => True) :=
  opMap (opStruct Try.underlying36 (by kernel_rfl) (fsCons rfl (by kernel_rfl) (opInt Try.underlying3) (fsCons rfl (by kernel_rfl) (opInt Try.underlying3) (fsCons rfl (by kernel_rfl) (opInt Try.underlying3) fsNil)))) (fun x => ⟨x.1, x.2.1, x.2.2.1⟩) (fun _ => rfl) (fun _ _ => trivial)
theorem u64_range {n : Int} (h : (Lit.int .u64 n).wf = true) : 0 ≤ n ∧ n ≤ 18446744073709551615 := by
  simp only [Lit.wf, Bool.and_eq_true, decide_eq_true_eq] at h
  have e1 : IntKind.u64.min = 0 := rfl
  have e2 : IntKind.u64.max = 18446744073709551615 := rfl
  omega
end A
end Go.Proofs.Ytmcannmjielalaa
set_option linter.unusedVariables false
set_option linter.unusedSimpArgs false
namespace Go.Proofs.Ytmcannmjielalaa
namespace A
theorem take_set_succ {α : Type} {l : List α} {i : Nat} {x : α} (h : i < l.length) : (l.set i x).take (i + 1) = l.take i ++ [x] := by
  rw [take_step (a := x) (by rw [List.getElem?_set_self h])]
  rw [List.take_set_of_le (Nat.le_refl _)]
end A
end Go.Proofs.Ytmcannmjielalaa
set_option linter.unusedVariables false
set_option linter.unusedSimpArgs false
namespace Go.Proofs.Ytmcannmjielalaa
namespace A
theorem el_25 : elemOf Try.prog 25 = some (3, 1, 8) := by kernel_rfl
theorem ty_144 : tyOf Try.prog 144 = some (1, false) := by kernel_rfl
theorem ty_158 : tyOf Try.prog 158 = some (1, false) := by kernel_rfl
theorem ty_25 : tyOf Try.prog 25 = some (1, false) := by kernel_rfl
theorem um_144 : Try.prog.underlying 144 = some (.map 3 4) := by kernel_rfl
theorem um_158 : Try.prog.underlying 158 = some (.map 3 49) := by kernel_rfl
/- maps.Keys[map[int]bool,int,bool]$1 -/
set_option maxRecDepth 100000 in
set_option maxHeartbeats 400000 in
theorem keys1_mib (b pb : Nat) (kvs : List (Int × AV)) (l : Nat) (I : List (List AV) → List HA → Prop) (S : List HA → Prop) (hy : ∀ pre x hc, KNx kvs pre x → I pre hc → YTriple Try.prog l x hc (fun r h' => ∃ v : Bool, r = .v (.bool v) ∧ (v = true → I (pre ++ [x]) h') ∧ (v = false → S h'))) (hc0 : List HA) (h0 : I [] hc0) : Triple Try.prog 215 [.fn (.yield l) [], .v (.pointer (some ⟨pb, 0, none⟩))] (.box pb [.v (.map (some b))] :: .map b kvs :: hc0) (fun r h' => ∃ hc', h' = .box pb [.v (.map (some b))] :: .map b kvs :: hc' ∧ ((∃ xs, KE kvs xs ∧ I xs hc') ∨ S hc')) := by
  refine triple_of Try.func215 rfl (by kernel_rfl) rfl (by simp) ?_
  refine aSeq ?_
  refine aReg ?_
  refine sr (rB1 ty_144) ?_
  refine sa ?_
  refine oRange rfl rfl (by decide) rfl (by repeat constructor) um_144 (fun r5 => ?_)
  refine oNil ?_
  refine aBlock ?_
  refine aLoopI (α := List Nat × List HA) (fun (idx, hc) => Idx kvs.length idx ∧ I (idx.map fun i => intA (keyAt kvs i)) hc) (fun (idx, hc) => ([(0, .fn (.yield l) []), (5, .v (.pointer (some ⟨r5, 0, none⟩)))], .mapIt b r5 kvs idx :: .box pb [.v (.map (some b))] :: hc)) (fun (idx, hc) => kvs.length - idx.length) ([], hc0) ?_ ?_ ?_
  · skip
    exact ⟨Idx.nil, h0⟩
  · skip
    exact weak_env ⟨rfl, rfl, trivial⟩
  · rintro ⟨idx, hc⟩ ⟨hix, hi⟩
    skip
    refine aSeq ?_
    refine aReg ?_
    refine sa ?_
    refine oNextR rfl rfl (by decide) rfl (by repeat constructor) (fun t6 ks6 ix6 hn6 => ?_)
    refine sp pX ?_
    refine oNil ?_
    refine aSeq ?_
    refine aCond rfl (fun c7 => ?_) (fun c7 => ?_)
    · skip
      refine aSkip ?_
      refine aBlock ?_
      refine aSeq ?_
      refine aReg ?_
      obtain ⟨i, kv, hkv, hni, rfl, rfl⟩ := hn6.yes c7
      refine sr (rEntry rfl rfl (by repeat constructor) hkv) ?_
      refine sp pX ?_
      refine sp pMa ?_
      refine oNil ?_
      refine aSeq ?_
      refine aReg ?_
      refine sp pM ?_
      refine sp pM ?_
      refine oYield (hfr := [.mapIt b r5 kvs (idx ++ [i]), .box pb [.v (.map (some b))]]) rfl rfl rfl (by decide) rfl rfl (hy _ (intA kv.1) hc (hix.knx hkv hni) hi) ?_
      rintro _ h2 ⟨v, rfl, hq1, hq2⟩
      refine sp pNo ?_
      refine oNil ?_
      refine aCondNot rfl (fun c13 => ?_) (fun c13 => ?_)
      · skip
        refine aWeak (weak_unmap .hd) ?_
        refine aRet ?_
        exact ⟨_, _, [], rfl, .cons (.tl .hd) (.cons .hd tk_refl), h2, rfl, .inr (hq2 (by simpa using c13))⟩
      · skip
        refine aSkip ?_
        have hil := (List.getElem?_eq_some_iff.1 hkv).1
        have hlt := hix.lt hil hni
        have hq := hq1 (by simpa using c13)
        refine ⟨(idx ++ [i], h2), ⟨hix.add hil hni, ?_⟩, by show kvs.length - (idx ++ [i]).length < kvs.length - idx.length; simp only [List.length_append, List.length_cons, List.length_nil]; omega, weak_env ⟨rfl, rfl, trivial⟩⟩
        rw [List.map_append, List.map_singleton, keyAt_get hkv]
        exact hq
    · skip
      obtain ⟨rfl, rfl, hall⟩ := hn6.no c7
      refine aWeak (weak_unmap .hd) ?_
      refine aExit rfl ?_
      exact ⟨_, _, [], rfl, .cons (.tl .hd) (.cons .hd tk_refl), hc, rfl, .inl ⟨_, hix.ke hall, hi⟩⟩
/- api.Route]$1 -/
set_option maxRecDepth 100000 in
set_option maxHeartbeats 400000 in
theorem keys1_mir (b pb : Nat) (kvs : List (Int × AV)) (l : Nat) (I : List (List AV) → List HA → Prop) (S : List HA → Prop) (hy : ∀ pre x hc, KNx kvs pre x → I pre hc → YTriple Try.prog l x hc (fun r h' => ∃ v : Bool, r = .v (.bool v) ∧ (v = true → I (pre ++ [x]) h') ∧ (v = false → S h'))) (hc0 : List HA) (h0 : I [] hc0) : Triple Try.prog 223 [.fn (.yield l) [], .v (.pointer (some ⟨pb, 0, none⟩))] (.box pb [.v (.map (some b))] :: .map b kvs :: hc0) (fun r h' => ∃ hc', h' = .box pb [.v (.map (some b))] :: .map b kvs :: hc' ∧ ((∃ xs, KE kvs xs ∧ I xs hc') ∨ S hc')) := by
  refine triple_of Try.func223 rfl (by kernel_rfl) rfl (by simp) ?_
  refine aSeq ?_
  refine aReg ?_
  refine sr (rB1 ty_158) ?_
  refine sa ?_
  refine oRange rfl rfl (by decide) rfl (by repeat constructor) um_158 (fun r5 => ?_)
  refine oNil ?_
  refine aBlock ?_
  refine aLoopI (α := List Nat × List HA) (fun (idx, hc) => Idx kvs.length idx ∧ I (idx.map fun i => intA (keyAt kvs i)) hc) (fun (idx, hc) => ([(0, .fn (.yield l) []), (5, .v (.pointer (some ⟨r5, 0, none⟩)))], .mapIt b r5 kvs idx :: .box pb [.v (.map (some b))] :: hc)) (fun (idx, hc) => kvs.length - idx.length) ([], hc0) ?_ ?_ ?_
  · skip
    exact ⟨Idx.nil, h0⟩
  · skip
    exact weak_env ⟨rfl, rfl, trivial⟩
  · rintro ⟨idx, hc⟩ ⟨hix, hi⟩
    skip
    refine aSeq ?_
    refine aReg ?_
    refine sa ?_
    refine oNextR rfl rfl (by decide) rfl (by repeat constructor) (fun t6 ks6 ix6 hn6 => ?_)
    refine sp pX ?_
    refine oNil ?_
    refine aSeq ?_
    refine aCond rfl (fun c7 => ?_) (fun c7 => ?_)
    · skip
      refine aSkip ?_
      refine aBlock ?_
      refine aSeq ?_
      refine aReg ?_
      obtain ⟨i, kv, hkv, hni, rfl, rfl⟩ := hn6.yes c7
      refine sr (rEntry rfl rfl (by repeat constructor) hkv) ?_
      refine sp pX ?_
      refine sp pMa ?_
      refine oNil ?_
      refine aSeq ?_
      refine aReg ?_
      refine sp pM ?_
      refine sp pM ?_
      refine oYield (hfr := [.mapIt b r5 kvs (idx ++ [i]), .box pb [.v (.map (some b))]]) rfl rfl rfl (by decide) rfl rfl (hy _ (intA kv.1) hc (hix.knx hkv hni) hi) ?_
      rintro _ h2 ⟨v, rfl, hq1, hq2⟩
      refine sp pNo ?_
      refine oNil ?_
      refine aCondNot rfl (fun c13 => ?_) (fun c13 => ?_)
      · skip
        refine aWeak (weak_unmap .hd) ?_
        refine aRet ?_
        exact ⟨_, _, [], rfl, .cons (.tl .hd) (.cons .hd tk_refl), h2, rfl, .inr (hq2 (by simpa using c13))⟩
      · skip
        refine aSkip ?_
        have hil := (List.getElem?_eq_some_iff.1 hkv).1
        have hlt := hix.lt hil hni
        have hq := hq1 (by simpa using c13)
        refine ⟨(idx ++ [i], h2), ⟨hix.add hil hni, ?_⟩, by show kvs.length - (idx ++ [i]).length < kvs.length - idx.length; simp only [List.length_append, List.length_cons, List.length_nil]; omega, weak_env ⟨rfl, rfl, trivial⟩⟩
        rw [List.map_append, List.map_singleton, keyAt_get hkv]
        exact hq
    · skip
      obtain ⟨rfl, rfl, hall⟩ := hn6.no c7
      refine aWeak (weak_unmap .hd) ?_
      refine aExit rfl ?_
      exact ⟨_, _, [], rfl, .cons (.tl .hd) (.cons .hd tk_refl), hc, rfl, .inl ⟨_, hix.ke hall, hi⟩⟩
theorem keys1_mir_iter (b pb : Nat) (kvs : List (Int × AV)) : IterT Try.prog 223 [.v (.pointer (some ⟨pb, 0, none⟩))] (KNx kvs) (KE kvs) [.box pb [.v (.map (some b))], .map b kvs] :=
  ⟨⟨_, Try.func223, by kernel_rfl, rfl⟩, fun l I S hy hc h0 => keys1_mir b pb kvs l I S (fun pre x hc hn hi => (hy pre x hc hn hi).bool) hc h0⟩
/- api.Route] -/
set_option maxRecDepth 100000 in
set_option maxHeartbeats 400000 in
theorem keys_mir (b : Nat) : Triple Try.prog 128 [.v (.map (some b))] [] (fun r h' => ∃ pb, r = .fn (.func 223) [.v (.pointer (some ⟨pb, 0, none⟩))] ∧ h' = [.box pb [.v (.map (some b))]]) := by
  refine triple_of Try.func128 rfl (by kernel_rfl) rfl (by simp) ?_
  refine aSeq ?_
  refine aReg ?_
  refine sq ?_
  refine qBox rfl rfl (by decide) rfl rfl (fun b1 => ?_)
  refine sp pMa ?_
  refine oNil ?_
  refine aSeq ?_
  refine aReg ?_
  refine sp (pFn rfl rfl) ?_
  refine sp pMa ?_
  refine oNil ?_
  refine aRet ?_
  exact ⟨_, [_], [], rfl, .cons .hd .nil, b1, rfl, rfl⟩
def srt_ren : Go.Shelf.Ren := ⟨fun | 189 => 193 | 125 => 243 | 257 => 254 | 128 => 282 | 129 => 283 | 294 => 308 | 295 => 309 | 296 => 310 | 297 => 311 | 298 => 312 | 299 => 313 | 216 => 227 | 300 => 314 | 301 => 315 | 328 => 333 | 329 => 320 | 330 => 321 | 331 => 334 | 332 => 335 | 215 => 246 | 343 => 341 | n => n, fun | 28 => 25 | 3 => 3 | 46 => 270 | 0 => 0 | 51 => 313 | 53 => 37 | 4 => 4 | 183 => 307 | 182 => 306 | 131 => 175 | 5 => 5 | 9 => 9 | 218 => 341 | 222 => 344 | 228 => 354 | 229 => 187 | n => n, fun | n => n⟩
theorem srt : Go.Proofs.Lays.n189 Try.prog srt_ren := {
  mixed := by kernel_rfl,
  f125 := Try.func243.trans (congrArg some (by kernel_rfl)),
  f128 := Try.func282.trans (congrArg some (by kernel_rfl)),
  f129 := Try.func283.trans (congrArg some (by kernel_rfl)),
  f189 := Try.func193.trans (congrArg some (by kernel_rfl)),
  f215 := Try.func246.trans (congrArg some (by kernel_rfl)),
  f216 := Try.func227.trans (congrArg some (by kernel_rfl)),
  f257 := Try.func254.trans (congrArg some (by kernel_rfl)),
  f294 := Try.func308.trans (congrArg some (by kernel_rfl)),
  f295 := Try.func309.trans (congrArg some (by kernel_rfl)),
  f296 := Try.func310.trans (congrArg some (by kernel_rfl)),
  f297 := Try.func311.trans (congrArg some (by kernel_rfl)),
  f298 := Try.func312.trans (congrArg some (by kernel_rfl)),
  f299 := Try.func313.trans (congrArg some (by kernel_rfl)),
  f300 := Try.func314.trans (congrArg some (by kernel_rfl)),
  f301 := Try.func315.trans (congrArg some (by kernel_rfl)),
  f328 := Try.func333.trans (congrArg some (by kernel_rfl)),
  f329 := Try.func320.trans (congrArg some (by kernel_rfl)),
  f330 := Try.func321.trans (congrArg some (by kernel_rfl)),
  f331 := Try.func334.trans (congrArg some (by kernel_rfl)),
  f332 := Try.func335.trans (congrArg some (by kernel_rfl)),
  f343 := Try.func341.trans (congrArg some (by kernel_rfl)),
  t0 := Try.underlying0,
  a0 := Try.isAgg0,
  z0 := Try.sizeOf0,
  v0 := Try.zeroValue0,
  t3 := Try.underlying3,
  a3 := Try.isAgg3,
  z3 := Try.sizeOf3,
  v3 := Try.zeroValue3,
  t4 := Try.underlying4,
  a4 := Try.isAgg4,
  z4 := Try.sizeOf4,
  v4 := Try.zeroValue4,
  t5 := Try.underlying5,
  a5 := Try.isAgg5,
  z5 := Try.sizeOf5,
  v5 := Try.zeroValue5,
  t9 := Try.underlying9,
  a9 := Try.isAgg9,
  z9 := Try.sizeOf9,
  v9 := Try.zeroValue9,
  t28 := Try.underlying25,
  a28 := Try.isAgg25,
  z28 := Try.sizeOf25,
  v28 := Try.zeroValue25,
  t46 := Try.underlying270,
  a46 := Try.isAgg270,
  z46 := Try.sizeOf270,
  v46 := Try.zeroValue270,
  t51 := Try.underlying313,
  a51 := Try.isAgg313,
  z51 := Try.sizeOf313,
  v51 := Try.zeroValue313,
  t53 := Try.underlying37,
  a53 := Try.isAgg37,
  z53 := Try.sizeOf37,
  v53 := Try.zeroValue37,
  t131 := Try.underlying175,
  a131 := Try.isAgg175,
  z131 := Try.sizeOf175,
  v131 := Try.zeroValue175,
  t182 := Try.underlying306,
  a182 := Try.isAgg306,
  z182 := Try.sizeOf306,
  v182 := Try.zeroValue306,
  t183 := Try.underlying307,
  a183 := Try.isAgg307,
  z183 := Try.sizeOf307,
  v183 := Try.zeroValue307,
  t218 := Try.underlying341,
  a218 := Try.isAgg341,
  z218 := Try.sizeOf341,
  v218 := Try.zeroValue341,
  t222 := Try.underlying344,
  a222 := Try.isAgg344,
  z222 := Try.sizeOf344,
  v222 := Try.zeroValue344,
  t228 := Try.underlying354,
  a228 := Try.isAgg354,
  z228 := Try.sizeOf354,
  v228 := Try.zeroValue354,
  t229 := Try.underlying187,
  a229 := Try.isAgg187,
  z229 := Try.sizeOf187,
  v229 := Try.zeroValue187 }
/- slices.AppendSeq[[]int,int] -/
set_option maxRecDepth 100000 in
set_option maxHeartbeats 400000 in
theorem appendSeq_int (gf : FuncId) (caps : List AV) (kvs : List (Int × AV)) (hit : List HA) (it : IterT Try.prog gf caps (KNx kvs) (KE kvs) hit) (hl : kvs.length ≤ 1000000) : Triple Try.prog 262 [(.v (.slice none 0 0)), .fn (.func gf) caps] hit (fun r h' => ∃ (ks : List Int) (g : Option Nat) (c : Nat), r = .v (slV g ks.length c) ∧ h' = .sl g c 3 1 (ks.map intA) :: hit ∧ ks.Perm (kvs.map Prod.fst)) := by
  refine triple_of Try.func262 rfl (by kernel_rfl) rfl (by simp) ?_
  refine aSeq ?_
  refine aReg ?_
  refine sq ?_
  refine qBox rfl rfl (by decide) rfl rfl (fun b2 => ?_)
  refine sp pMa ?_
  refine oNil ?_
  refine aSeq ?_
  refine aSeq ?_
  refine aReg ?_
  refine sp pM ?_
  refine oNil ?_
  refine aBlock ?_
  refine aRangeFunc (α := List Int × Option Nat × Nat) (fun (ks, g, c) => [.sl g c 3 1 (ks.map intA), .box b2 [.v (slV g ks.length c)]]) (fun pre (ks, g, c) => pre = ks.map intA) ([], none, 0) rfl (by decide) it ?_ ?_ ?_ ?_ ?_
  · skip
    rintro _ _ ⟨_, _, _, rfl, _⟩; rfl
  · skip
    refine Weak.trans (weak_nil 3 1) ?_
    exact weak_perm (List.perm_append_comm (l₁ := [_, _]))
  · skip
    rfl
  · rintro pre x ⟨ks, g, c⟩ ⟨ks', k, hpre, rfl, hkl⟩ hJ
    replace hJ : pre = ks.map intA := hJ
    obtain rfl : ks = ks' := intA_inj (hJ.symm.trans hpre)
    refine aReg ?_
    refine sp pMa ?_
    refine oNil ?_
    refine aBlock ?_
    refine aReg ?_
    refine sr (by first | exact rS1 ty_25 | exact rB1 ty_25 | exact rAr ty_25 | exact rArL ty_25 | exact rArR2 ty_25) ?_
    refine sp pM ?_
    refine sq ?_
    refine qLit (l := [_]) rfl rfl (by decide) us_25 ty_3 ze_3 rfl (by decide) (by decide) rfl rfl rfl (fun b10 => ?_)
    refine sa ?_
    refine oAppT [_] rfl rfl (by repeat constructor) (srcOwn rfl (by repeat constructor) rfl) el_25 sl_25 (fun g11 k11 => ?_)
    refine sa ?_
    refine oStB rfl rfl rfl rfl (by repeat constructor) ty_25 rfl (Nat.le_of_ble_eq_true rfl) rfl ?_
    refine oNil ?_
    refine ⟨(ks ++ [k], g11, k11), by show pre ++ _ = List.map intA (ks ++ [k]); rw [List.map_append, hJ]; rfl, ?_⟩
    simp only [List.map_append, List.map_cons, List.map_nil, List.length_append, List.length_cons, List.length_nil, List.length_map]
    exact weak_sub trivial (by repeat constructor)
  · rintro xs ⟨ks, g, c⟩ hE hJ
    try dsimp only [List.nil_append, List.cons_append]
    replace hJ : xs = ks.map intA := hJ
    obtain ⟨ks', hks, hperm⟩ := hE
    obtain rfl : ks = ks' := intA_inj (hJ.symm.trans hks)
    refine aWeak (weak_perm List.perm_append_comm) ?_
    refine aSeq ?_
    refine aReg ?_
    refine sr (by first | exact rS1 ty_25 | exact rB1 ty_25 | exact rAr ty_25 | exact rArL ty_25 | exact rArR2 ty_25) ?_
    refine sp pMa ?_
    refine oNil ?_
    refine aRet ?_
    exact ⟨_, _ :: hit, [_], rfl, .cons .hd (tk_after (l := [_])), ks, g, c, rfl, rfl, hperm⟩
/- slices.Collect[int] -/
set_option maxRecDepth 100000 in
set_option maxHeartbeats 400000 in
theorem collect_int (gf : FuncId) (caps : List AV) (kvs : List (Int × AV)) (hit : List HA) (it : IterT Try.prog gf caps (KNx kvs) (KE kvs) hit) (hl : kvs.length ≤ 1000000) : Triple Try.prog 214 [.fn (.func gf) caps] hit (fun r h' => ∃ (ks : List Int) (g : Option Nat) (c : Nat), r = .v (slV g ks.length c) ∧ h' = .sl g c 3 1 (ks.map intA) :: hit ∧ ks.Perm (kvs.map Prod.fst)) := by
  refine triple_of Try.func214 rfl (by kernel_rfl) rfl (by simp) ?_
  refine aSeq ?_
  refine aReg ?_
  refine sp pMa ?_
  refine oNil ?_
  refine aSeq ?_
  refine aReg ?_
  refine sp pM ?_
  refine sa ?_
  refine aCall (hin := hit) (hfr := []) rfl rfl (by decide) rfl rfl tk_refl (appendSeq_int gf caps kvs hit it hl) ?_
  rintro _ _ ⟨ks, g, c, rfl, rfl, hperm⟩
  refine sp pMa ?_
  refine oNil ?_
  refine aRet ?_
  refine ⟨_, _ :: hit, [], rfl, ?_, ks, g, c, rfl, rfl, hperm⟩
  rw [List.append_nil]
  exact tk_refl
/- slices.Sorted[int] -/
set_option maxRecDepth 100000 in
set_option maxHeartbeats 400000 in
theorem sorted_int (gf : FuncId) (caps : List AV) (kvs : List (Int × AV)) (hit : List HA) (it : IterT Try.prog gf caps (KNx kvs) (KE kvs) hit) (hl : kvs.length ≤ 1000000) : Triple Try.prog 118 [.fn (.func gf) caps] hit (fun r h' => ∃ g c, r = .v (slV g (sortI (kvs.map Prod.fst)).length c) ∧ h' = .sl g c 3 1 ((sortI (kvs.map Prod.fst)).map intA) :: hit) := by
  refine triple_of Try.func118 rfl (by kernel_rfl) rfl (by simp) ?_
  refine aSeq ?_
  refine aReg ?_
  refine sp pMa ?_
  refine oNil ?_
  refine aSeq ?_
  refine aReg ?_
  refine sp pM ?_
  refine sa ?_
  refine aCall (hin := hit) (hfr := []) rfl rfl (by decide) rfl rfl tk_refl (collect_int gf caps kvs hit it hl) ?_
  rintro _ _ ⟨ks, g, c, rfl, rfl, hperm⟩
  refine sp pMa ?_
  refine oNil ?_
  refine aSeq ?_
  refine aReg ?_
  refine sp pM ?_
  refine sa ?_
  refine aCall (hin := [_]) (hfr := hit ++ []) rfl rfl (by decide) rfl rfl (.cons .hd .nil) (triple_sort srt rfl ⟨_, Try.func193, by kernel_rfl, rfl⟩ g c 3 ks (by have := hperm.length_eq; rw [List.length_map] at this; omega)) ?_
  rintro _ _ ⟨rfl, rfl⟩
  refine oNil ?_
  refine aSeq ?_
  refine aReg ?_
  refine sp pM ?_
  refine sp pMa ?_
  refine oNil ?_
  refine aRet ?_
  have hs : sortI ks = sortI (kvs.map Prod.fst) := sortI_perm hperm
  refine ⟨_, .sl g c 3 1 ((sortI ks).map intA) :: hit, [], rfl, ?_, g, c, ?_, ?_⟩
  · show Tk (_ :: (hit ++ [])) _ _
    rw [List.append_nil]
    exact tk_refl
  · rw [← hs, sortI_length]; rfl
  · rw [hs]
theorem sorted_int_s (gf : FuncId) (caps : List AV) (kvs : List (Int × AV)) (hit : List HA) (it : IterT Try.prog gf caps (KNx kvs) (KE kvs) hit) (hl : kvs.length ≤ 1000000) : Triple Try.prog 118 [.fn (.func gf) caps] hit (Is (.sl 1 ((sortI (kvs.map Prod.fst)).map intA)) hit) :=
  ((sorted_int gf caps kvs hit it hl).mono (Q' := Own 3 1 ((sortI (kvs.map Prod.fst)).map intA) hit) fun q h' ⟨g, c, hq, hh⟩ => ⟨g, c, by rw [List.length_map]; exact hq, hh⟩).settle
end A
end Go.Proofs.Ytmcannmjielalaa
set_option linter.unusedVariables false
set_option linter.unusedSimpArgs false
namespace Go.Proofs.Ytmcannmjielalaa
namespace A
theorem el_22 : elemOf Try.prog 22 = some (36, 3, 24) := by kernel_rfl
theorem mo_144 : mapOf Try.prog 144 = some (3, 4) := by kernel_rfl
theorem us_22 : Try.prog.underlying 22 = some (.slice 36) := by kernel_rfl
end A
end Go.Proofs.Ytmcannmjielalaa
set_option linter.unusedVariables false
set_option linter.unusedSimpArgs false
namespace Go.Proofs.Ytmcannmjielalaa
namespace A
theorem filter_take {α : Type} {p : α → Bool} {l : List α} {i : Nat} {a : α} (h : l[i]? = some a) : (l.take (i + 1)).filter p = (l.take i).filter p ++ if p a then [a] else [] := by
  rw [take_step h, List.filter_append]
  cases hp : p a <;> simp [hp]
theorem filter_len {α : Type} {p : α → Bool} {l : List α} {i : Nat} : ((l.take i).filter p).length ≤ i := by
  refine Nat.le_trans (List.length_filter_le _ _) ?_
  rw [List.length_take]
  omega
end A
end Go.Proofs.Ytmcannmjielalaa
set_option linter.unusedVariables false
set_option linter.unusedSimpArgs false
namespace Go.Proofs.Ytmcannmjielalaa
namespace A
theorem st_36 : structPlaces Try.prog 36 = some [(0, 1), (1, 1), (2, 1)] := by kernel_rfl
structure Link where
  t : Int
  c : Int
  deriving DecidableEq
structure Lsa where
  o : Int
  s : Int
  ls : List Link
  deriving DecidableEq
end A
end Go.Proofs.Ytmcannmjielalaa
set_option linter.unusedVariables false
set_option linter.unusedSimpArgs false
namespace Go.Proofs.Ytmcannmjielalaa
namespace A
def farI : Int := 18446744073709551615
def addS (a b : Int) : Int := if a > farI - b then farI else a + b
/-! ### A heap of spots -/
def lessS (a b : Int × Int) : Bool := if a.1 ≠ b.1 then decide (a.1 < b.1) else decide (a.2 < b.2)
theorem lessS_iff {a b : Int × Int} : lessS a b = true ↔ a.1 < b.1 ∨ a.1 = b.1 ∧ a.2 < b.2 := by
  unfold lessS
  split
  · rw [decide_eq_true_eq]; omega
  · rw [decide_eq_true_eq]; omega
theorem lessS_no {a b : Int × Int} : lessS a b = false ↔ ¬ (a.1 < b.1 ∨ a.1 = b.1 ∧ a.2 < b.2) := by
  rw [← lessS_iff, Bool.not_eq_true]
/-- No less than, at places that there are. -/
def NL (h : List (Int × Int)) (j k : Nat) : Prop := ∀ x y, h[j]? = some x → h[k]? = some y → lessS x y = false
def HeapOk (h : List (Int × Int)) : Prop := ∀ j, 0 < j → NL h j ((j - 1) / 2)
theorem heap_min {h : List (Int × Int)} (hk : HeapOk h) {x : Int × Int} (h0 : h[0]? = some x) : ∀ (j : Nat) y, h[j]? = some y → lessS y x = false := fun j => by
  induction j using Nat.strongRecOn with
  | _ j ih =>
    intro y hy
    by_cases hj : j = 0
    · subst hj
      rw [h0] at hy
      cases hy
      rw [lessS_no]; omega
    · have hlt : (j - 1) / 2 < j := by omega
      have hl := (List.getElem?_eq_some_iff.1 hy).1
      obtain ⟨z, hz⟩ : ∃ z, h[(j - 1) / 2]? = some z := ⟨_, List.getElem?_eq_getElem (by omega)⟩
      have h1 := ih _ hlt z hz
      have h2 := hk j (by omega) y z hy hz
      rw [lessS_no] at *
      omega
theorem heap_first {h : List (Int × Int)} (hk : HeapOk h) {x : Int × Int} (h0 : h[0]? = some x) : ∀ e ∈ h, x.1 ≤ e.1 := fun e he => by
  obtain ⟨j, hj⟩ := List.mem_iff_getElem?.1 he
  have := heap_min hk h0 j e hj
  rw [lessS_no] at this
  omega
def swapH (h : List (Int × Int)) (i k : Nat) : List (Int × Int) := (h.set i (h.getD k (0, 0))).set k (h.getD i (0, 0))
theorem swapH_len (h : List (Int × Int)) (i k : Nat) : (swapH h i k).length = h.length := by simp [swapH]
theorem swapH_get {h : List (Int × Int)} {i k : Nat} (hi : i < h.length) (hk : k < h.length) (j : Nat) : (swapH h i k)[j]? = if j = k then h[i]? else if j = i then h[k]? else h[j]? := by
  unfold swapH
  simp only [List.getElem?_set, List.length_set, List.getD]
  by_cases h1 : j = k
  · subst h1; simp [hk, hi]
  · rw [if_neg (fun e => h1 e.symm), if_neg h1]
    by_cases h2 : j = i
    · subst h2; simp [hk, hi]
    · rw [if_neg (fun e => h2 e.symm), if_neg h2]
theorem swapH_perm {h : List (Int × Int)} {i k : Nat} (hi : i < h.length) (hk : k < h.length) : (swapH h i k).Perm h := by
  have := List.set_set_perm hi hk
  unfold swapH
  simpa [List.getD, hi, hk] using this
/-- All is in order but one spot and the one above it. -/
def UpOk (h : List (Int × Int)) (i : Nat) : Prop := (∀ j, 0 < j → j ≠ i → NL h j ((j - 1) / 2)) ∧ (∀ j, 0 < i → 0 < j → (j - 1) / 2 = i → NL h j ((i - 1) / 2))
theorem up_end {h : List (Int × Int)} {i : Nat} (u : UpOk h i) (he : i = 0 ∨ NL h i ((i - 1) / 2)) : HeapOk h := fun j hj => by
  by_cases e : j = i
  · subst e
    rcases he with h | h
    · omega
    · exact h
  · exact u.1 j hj e
theorem up_swap {h : List (Int × Int)} {i : Nat} (hi : i < h.length) (h0 : 0 < i) (u : UpOk h i) {x y : Int × Int} (hx : h[i]? = some x) (hy : h[(i - 1) / 2]? = some y) (hlt : lessS x y = true) : UpOk (swapH h i ((i - 1) / 2)) ((i - 1) / 2) := by
  have hk : (i - 1) / 2 < h.length := by omega
  have hp : (i - 1) / 2 < i := by omega
  have ht : ∀ a b c : Int × Int, lessS b a = false → lessS c b = false → lessS c a = false := fun a b c h1 h2 => by rw [lessS_no] at *; omega
  generalize hq : (i - 1) / 2 = q at *
  refine ⟨fun j hj hne a b ha hb => ?_, fun j hq0 hj hjq a b ha hb => ?_⟩
  · rw [swapH_get hi hk] at ha hb
    rw [if_neg hne] at ha
    by_cases hji : j = i
    · subst hji
      rw [if_pos rfl, hy] at ha
      rw [hq, if_pos rfl, hx] at hb
      cases ha; cases hb
      rw [lessS_iff] at hlt
      rw [lessS_no]
      omega
    · rw [if_neg hji] at ha
      by_cases hj1 : (j - 1) / 2 = q
      · rw [hj1, if_pos rfl, hx] at hb
        cases hb
        have h1 := u.1 j hj hji a y ha (by rw [hj1]; exact hy)
        rw [lessS_iff] at hlt
        rw [lessS_no] at *
        omega
      · rw [if_neg hj1] at hb
        by_cases hj2 : (j - 1) / 2 = i
        · rw [hj2, if_pos rfl, hy] at hb
          cases hb
          exact u.2 j h0 hj hj2 a y ha (by rw [hq]; exact hy)
        · rw [if_neg hj2] at hb
          exact u.1 j hj hji a b ha hb
  · rw [swapH_get hi hk] at ha hb
    have hbq : h[(q - 1) / 2]? = some b := by
      rw [if_neg (by omega), if_neg (by omega)] at hb
      exact hb
    have hyb := u.1 q hq0 (by omega) y b hy hbq
    rw [if_neg (by omega)] at ha
    by_cases hji : j = i
    · subst hji
      rw [if_pos rfl, hy] at ha
      cases ha
      exact hyb
    · rw [if_neg hji] at ha
      have h1 := u.1 j hj hji a y ha (by rw [hjq]; exact hy)
      exact ht _ _ _ hyb h1
theorem up_new {h : List (Int × Int)} {s : Int × Int} (hk : HeapOk h) : UpOk (h ++ [s]) h.length := by
  have hlen : (h ++ [s]).length = h.length + 1 := by simp
  refine ⟨fun j hj hne a b ha hb => ?_, fun j h0 hj hji a b ha hb => ?_⟩
  · have := (List.getElem?_eq_some_iff.1 ha).1
    rw [List.getElem?_append_left (by omega)] at ha hb
    exact hk j hj a b ha hb
  · have := (List.getElem?_eq_some_iff.1 ha).1
    omega
/-- All is in order but one spot and those below it. -/
def DownOk (h : List (Int × Int)) (i : Nat) : Prop := (∀ j, 0 < j → (j - 1) / 2 ≠ i → NL h j ((j - 1) / 2)) ∧ (∀ j, 0 < i → 0 < j → (j - 1) / 2 = i → NL h j ((i - 1) / 2))
/-- The least of a spot and those below it. -/
def LeastAt (h : List (Int × Int)) (i k : Nat) : Prop := (k = i ∨ k = 2 * i + 1 ∨ k = 2 * i + 2) ∧ NL h i k ∧ NL h (2 * i + 1) k ∧ NL h (2 * i + 2) k
theorem down_end {h : List (Int × Int)} {i : Nat} (d : DownOk h i) (hl : LeastAt h i i) : HeapOk h := fun j hj => by
  by_cases e : (j - 1) / 2 = i
  · rw [e]
    rcases (show j = 2 * i + 1 ∨ j = 2 * i + 2 by omega) with rfl | rfl
    · exact hl.2.2.1
    · exact hl.2.2.2
  · exact d.1 j hj e
theorem down_swap {h : List (Int × Int)} {i k : Nat} (hi : i < h.length) (hk : k < h.length) (d : DownOk h i) (hl : LeastAt h i k) (hne : k ≠ i) : DownOk (swapH h i k) k := by
  obtain ⟨hkk, hl0, hl1, hl2⟩ := hl
  have hki : (k - 1) / 2 = i := by omega
  have hk0 : 0 < k := by omega
  obtain ⟨x, hx⟩ : ∃ x, h[i]? = some x := ⟨_, List.getElem?_eq_getElem hi⟩
  obtain ⟨y, hy⟩ : ∃ y, h[k]? = some y := ⟨_, List.getElem?_eq_getElem hk⟩
  refine ⟨fun j hj hjk a b ha hb => ?_, fun j _ hj hjk a b ha hb => ?_⟩
  · rw [swapH_get hi hk] at ha hb
    rw [if_neg hjk] at hb
    by_cases e1 : j = k
    · subst e1
      rw [if_pos rfl, hx] at ha
      rw [hki, if_pos rfl, hy] at hb
      cases ha; cases hb
      exact hl0 x y hx hy
    · rw [if_neg e1] at ha
      by_cases e2 : j = i
      · subst e2
        rw [if_pos rfl, hy] at ha
        cases ha
        rw [if_neg (by omega)] at hb
        exact d.2 k hj hk0 hki y b hy hb
      · rw [if_neg e2] at ha
        by_cases e3 : (j - 1) / 2 = i
        · rw [e3, if_pos rfl, hy] at hb
          cases hb
          rcases (show j = 2 * i + 1 ∨ j = 2 * i + 2 by omega) with rfl | rfl
          · exact hl1 a y ha hy
          · exact hl2 a y ha hy
        · rw [if_neg e3] at hb
          exact d.1 j hj e3 a b ha hb
  · rw [swapH_get hi hk] at ha hb
    rw [hki, if_neg (by omega), if_pos rfl, hy] at hb
    cases hb
    rw [if_neg (by omega), if_neg (by omega)] at ha
    have := d.1 j hj (by omega) a y ha (by rw [hjk]; exact hy)
    exact this
theorem down_new {h : List (Int × Int)} {x : Int × Int} (hk : HeapOk h) : DownOk ((h.set 0 x).take (h.length - 1)) 0 := by
  refine ⟨fun j hj hj0 a b ha hb => ?_, fun j h0 => by omega⟩
  have h1 : ∀ (m : Nat) z, 0 < m → ((h.set 0 x).take (h.length - 1))[m]? = some z → h[m]? = some z := fun m z hm hz => by
    rw [List.getElem?_take] at hz
    split at hz
    · rw [List.getElem?_set_ne (by omega)] at hz; exact hz
    · cases hz
  exact hk j hj a b (h1 j a hj ha) (h1 _ b (by omega) hb)
theorem take_perm {h : List (Int × Int)} {x y : Int × Int} (h0 : h[0]? = some x) (hl : h[h.length - 1]? = some y) : h.Perm (x :: (h.set 0 y).take (h.length - 1)) := by
  cases h with
  | nil => simp at h0
  | cons z t =>
    simp at h0
    subst h0
    refine .cons _ ?_
    cases ht : t with
    | nil => simp
    | cons u v =>
      rw [ht] at hl
      have hne : (u :: v) ≠ [] := by simp
      have hlast : (u :: v).getLast hne = y := by
        rw [List.getLast_eq_getElem]
        simp at hl
        simpa using hl
      have hd := List.dropLast_concat_getLast hne
      rw [hlast] at hd
      have h2 : ((z :: u :: v).set 0 y).take ((z :: u :: v).length - 1) = y :: (u :: v).dropLast := by
        simp [List.dropLast_eq_take]
      rw [h2]
      calc (u :: v).Perm ((u :: v).dropLast ++ [y]) := .of_eq hd.symm
        _ |>.Perm (y :: (u :: v).dropLast) := List.perm_append_comm (l₂ := [y])
end A
end Go.Proofs.Ytmcannmjielalaa
set_option linter.unusedVariables false
set_option linter.unusedSimpArgs false
namespace Go.Proofs.Ytmcannmjielalaa
namespace A
structure Rt where
  nd : Int
  via : Int
  c : Int
  deriving DecidableEq, Inhabited
/-! ### Walks and their costs -/
inductive Wk (l : List Arc) (r : Int) : Int → Int → Prop
  | refl : Wk l r r 0
  | step {u c : Int} {a : Arc} : Wk l r u c → a ∈ l → a.f = u → Wk l r a.t (c + a.c)
theorem Wk.nn {l : List Arc} (hl : ∀ a ∈ l, AOk a) {r v c : Int} (k : Wk l r v c) : 0 ≤ c := by
  induction k with
  | refl => exact Int.le_refl _
  | step _ ha _ ih => have := hl _ ha; unfold AOk at this; omega
theorem Wk.trans {l : List Arc} {r u v c e : Int} (k : Wk l r u c) (k2 : Wk l u v e) : Wk l r v (c + e) := by
  induction k2 with
  | refl => rw [Int.add_zero]; exact k
  | step _ ha hu ih => rw [← Int.add_assoc]; exact .step ih ha hu
theorem Wk.rng {l : List Arc} (hl : ∀ a ∈ l, AOk a) {r v c : Int} (k : Wk l r v c) : v = r ∨ (1 ≤ v ∧ v ≤ 64 ∧ 1 ≤ c) := by
  cases k with
  | refl => exact .inl rfl
  | step k ha _ => have := k.nn hl; have := hl _ ha; unfold AOk at this; right; omega
theorem Wk.rngR {l : List Arc} (hl : ∀ a ∈ l, AOk a) {r v c : Int} (k : Wk l r v c) : v = r ∨ (1 ≤ r ∧ r ≤ 64) := by
  induction k with
  | refl => exact .inl rfl
  | step k ha hu ih =>
    have := hl _ ha
    unfold AOk at this
    right
    rcases ih with h | h
    · omega
    · exact h
/-! ### Rounds over all arcs -/
abbrev DS := (Int → Bool) × (Int → Int)
def rlx (s : DS) (a : Arc) : DS := if s.1 a.f && (!s.1 a.t || decide (s.2 a.f + a.c < s.2 a.t)) then (updF s.1 a.t true, updF s.2 a.t (s.2 a.f + a.c)) else s
def rndD (l : List Arc) (s : DS) : DS := l.foldl rlx s
def satD (l : List Arc) : Nat → DS → DS
  | 0, s => s
  | k + 1, s => satD l k (rndD l s)
def ini (r : Int) : DS := (if 1 ≤ r ∧ r ≤ 64 then updF (fun _ => false) r true else fun _ => false, fun _ => 0)
def bfD (l : List Arc) (r : Int) : DS := satD l 65 (ini r)
def isF (l : List Arc) (r v : Int) : Bool := (bfD l r).1 v
def dF (l : List Arc) (r v : Int) : Int := (bfD l r).2 v
def Dom (s : DS) (v c : Int) : Prop := s.1 v = true ∧ s.2 v ≤ c
structure SInv (l : List Arc) (r : Int) (s : DS) : Prop where
  snd : ∀ v, s.1 v = true → Wk l r v (s.2 v)
  rt : s.1 r = true ∧ s.2 r = 0
theorem rlx_inv {l : List Arc} (hl : ∀ a ∈ l, AOk a) {r : Int} {s : DS} {a : Arc} (ha : a ∈ l) (I : SInv l r s) : SInv l r (rlx s a) := by
  unfold rlx
  split
  · rename_i hc
    simp only [Bool.and_eq_true, Bool.or_eq_true, Bool.not_eq_true', decide_eq_true_eq] at hc
    have hw := I.snd _ hc.1
    have hn := hw.nn hl
    have hok := hl a ha
    unfold AOk at hok
    have hr : a.t ≠ r := fun e => by
      rw [e, I.rt.1, I.rt.2] at hc
      rcases hc.2 with h | h
      · cases h
      · omega
    refine ⟨fun v hv => ?_, ?_, ?_⟩
    · by_cases e : v = a.t
      · subst e
        show Wk l r a.t (updF s.2 a.t _ a.t)
        rw [updF_same]
        exact .step hw ha rfl
      · show Wk l r v (updF s.2 a.t _ v)
        rw [updF_ne _ _ e]
        exact I.snd v (by have h2 : updF s.1 a.t true v = true := hv; rwa [updF_ne _ _ e] at h2)
    · show updF s.1 a.t true r = true
      rw [updF_ne _ _ (fun e => hr e.symm)]; exact I.rt.1
    · show updF s.2 a.t _ r = 0
      rw [updF_ne _ _ (fun e => hr e.symm)]; exact I.rt.2
  · exact I
theorem rlx_dom {s : DS} {a : Arc} {v c : Int} (h : Dom s v c) : Dom (rlx s a) v c := by
  unfold rlx
  split
  · rename_i hc
    simp only [Bool.and_eq_true, Bool.or_eq_true, Bool.not_eq_true', decide_eq_true_eq] at hc
    unfold Dom at *
    by_cases e : v = a.t
    · subst e
      simp only [updF_same]
      refine ⟨trivial, ?_⟩
      rcases hc.2 with h2 | h2
      · rw [h.1] at h2; cases h2
      · omega
    · simp only [updF_ne _ _ e]; exact h
  · exact h
theorem rlx_new {s : DS} {a : Arc} (h : s.1 a.f = true) : Dom (rlx s a) a.t (s.2 a.f + a.c) := by
  unfold rlx Dom
  split
  · simp only [updF_same]; exact ⟨trivial, Int.le_refl _⟩
  · rename_i hc
    simp only [Bool.and_eq_true, Bool.or_eq_true, Bool.not_eq_true', decide_eq_true_eq, h, true_and, not_or] at hc
    refine ⟨by simpa using hc.1, by omega⟩
theorem rnd_inv {l : List Arc} (hl : ∀ a ∈ l, AOk a) {r : Int} : ∀ {m : List Arc} {s : DS}, (∀ a ∈ m, a ∈ l) → SInv l r s → SInv l r (rndD m s)
  | [], s, _, I => I
  | a :: m, s, h, I => rnd_inv hl (m := m) (fun b hb => h b (by simp [hb])) (rlx_inv hl (h a (by simp)) I)
theorem rnd_dom {v c : Int} : ∀ {m : List Arc} {s : DS}, Dom s v c → Dom (rndD m s) v c
  | [], _, h => h
  | a :: m, s, h => rnd_dom (m := m) (rlx_dom h)
/-- What is known of a node is the least. -/
def Lst (l : List Arc) (r : Int) (s : DS) (v : Int) : Prop := s.1 v = true ∧ ∀ c, Wk l r v c → s.2 v ≤ c
theorem Lst.dom {l : List Arc} {r : Int} {s : DS} {v c : Int} (h : Lst l r s v) (k : Wk l r v c) : Dom s v c := ⟨h.1, h.2 c k⟩
theorem lst_of {l : List Arc} {r : Int} {s : DS} {v c : Int} (h : Dom s v c) (hm : ∀ e, Wk l r v e → c ≤ e) : Lst l r s v := ⟨h.1, fun e k => by have := hm e k; have := h.2; omega⟩
theorem rnd_lst {l : List Arc} (hl : ∀ a ∈ l, AOk a) {r u : Int} {s : DS} {m : List Arc} (hm : ∀ a ∈ m, a ∈ l) (I : SInv l r s) (h : Lst l r s u) : Lst l r (rndD m s) u :=
  lst_of (rnd_dom (m := m) ⟨h.1, Int.le_refl _⟩) h.2
theorem rnd_new {l : List Arc} (hl : ∀ a ∈ l, AOk a) {r : Int} {a : Arc} : ∀ {m : List Arc} {s : DS}, (∀ b ∈ m, b ∈ l) → SInv l r s → Lst l r s a.f → a ∈ m → Dom (rndD m s) a.t (s.2 a.f + a.c)
  | [], _, _, _, _, h => by simp at h
  | x :: m, s, hm, I, hf, h => by
    have I' := rlx_inv hl (hm x (by simp)) I
    have hf' : Lst l r (rlx s x) a.f := lst_of (rlx_dom ⟨hf.1, Int.le_refl _⟩) hf.2
    have he : (rlx s x).2 a.f = s.2 a.f := by
      have h1 := hf'.2 _ (I.snd _ hf.1)
      have h2 := hf.2 _ (I'.snd _ hf'.1)
      omega
    rcases List.mem_cons.1 h with rfl | h
    · exact rnd_dom (m := m) (rlx_new hf.1)
    · have := rnd_new hl (m := m) (s := rlx s x) (fun b hb => hm b (by simp [hb])) I' hf' h
      rwa [he] at this
/-- The least cost there is. -/
theorem least_int {p : Int → Prop} {c : Int} (h0 : ∀ c, p c → 0 ≤ c) (h : p c) : ∃ c, p c ∧ ∀ e, p e → c ≤ e := by
  have : ∀ (n : Nat) (c : Int), c.toNat ≤ n → p c → ∃ c, p c ∧ ∀ e, p e → c ≤ e := fun n => by
    induction n with
    | zero => intro c hc hp; exact ⟨c, hp, fun e he => by have := h0 e he; have := h0 c hp; omega⟩
    | succ n ih =>
      intro c hc hp
      by_cases hs : ∃ e, p e ∧ e < c
      · obtain ⟨e, he, hlt⟩ := hs
        exact ih e (by have := h0 e he; omega) he
      · exact ⟨c, hp, fun e he => by
          apply Classical.byContradiction
          intro hn
          exact hs ⟨e, he, by omega⟩⟩
  exact this c.toNat c (Nat.le_refl _) h
theorem sat_prog {l : List Arc} (hl : ∀ a ∈ l, AOk a) {r : Int} (h0 : 1 ≤ r) (h1 : r ≤ 64) : ∀ (k : Nat) (s : DS), SInv l r s → ∀ L : List Int, L.Nodup → (∀ u ∈ L, 0 ≤ u ∧ u < 65 ∧ Lst l r s u) → 65 < L.length + k → SInv l r (satD l k s) ∧ ∀ v c, Wk l r v c → Dom (satD l k s) v c
  | 0, s, I, L, hn, hL, hk => by
    have := nodup_len hn (n := 65) (fun x hx => ⟨(hL x hx).1, by have := (hL x hx).2.1; omega⟩)
    omega
  | k + 1, s, I, L, hn, hL, hk => by
    have I' := rnd_inv hl (m := l) (fun a ha => ha) I
    by_cases hd : ∀ v c, Wk l r v c → Dom s v c
    · have hdk : ∀ (j : Nat) (s : DS), SInv l r s → (∀ v c, Wk l r v c → Dom s v c) → SInv l r (satD l j s) ∧ ∀ v c, Wk l r v c → Dom (satD l j s) v c := fun j => by
        induction j with
        | zero => intro s I h; exact ⟨I, h⟩
        | succ j ih => intro s I h; exact ih _ (rnd_inv hl (m := l) (fun a ha => ha) I) (fun v c k => rnd_dom (m := l) (h v c k))
      exact hdk (k + 1) s I hd
    · obtain ⟨c, ⟨v, hk1, hk2⟩, hmin⟩ : ∃ c, (∃ v, Wk l r v c ∧ ¬ Lst l r s v) ∧ ∀ e, (∃ v, Wk l r v e ∧ ¬ Lst l r s v) → c ≤ e := by
        simp only [Classical.not_forall] at hd
        obtain ⟨v, c, k, hnd⟩ := hd
        exact least_int (p := fun c => ∃ v, Wk l r v c ∧ ¬ Lst l r s v) (fun c ⟨v, k, _⟩ => k.nn hl) ⟨v, k, fun h => hnd (h.dom k)⟩
      cases hk1 with
      | refl => exact absurd ⟨I.rt.1, fun e k => by rw [I.rt.2]; exact k.nn hl⟩ hk2
      | @step u e a hu ha hf =>
        have hok := hl a ha
        unfold AOk at hok
        have hlu : Lst l r s u := Classical.byContradiction fun h => by
          have := hmin e ⟨u, hu, h⟩
          omega
        have hlt : Lst l r (rndD l s) a.t := by
          refine lst_of (c := s.2 a.f + a.c) (rnd_new hl (fun b hb => hb) I (by rw [hf]; exact hlu) ha) (fun e' k' => ?_)
          have h2 := hmin e' ⟨a.t, k', hk2⟩
          have h3 := hlu.2 e hu
          rw [hf]
          omega
        refine sat_prog hl h0 h1 k (rndD l s) I' (a.t :: L) (List.nodup_cons.2 ⟨fun h => hk2 (hL _ h).2.2, hn⟩) (fun x hx => ?_) (by simp; omega)
        rcases List.mem_cons.1 hx with rfl | hx
        · exact ⟨by omega, by omega, hlt⟩
        · obtain ⟨a1, a2, a3⟩ := hL x hx
          exact ⟨a1, a2, rnd_lst hl (fun b hb => hb) I a3⟩
theorem bf_all {l : List Arc} (hl : ∀ a ∈ l, AOk a) {r : Int} (h0 : 1 ≤ r) (h1 : r ≤ 64) : SInv l r (bfD l r) ∧ ∀ v c, Wk l r v c → Dom (bfD l r) v c := by
  have I : SInv l r (ini r) := by
    unfold ini
    rw [if_pos ⟨h0, h1⟩]
    refine ⟨fun v hv => ?_, by simp [updF], rfl⟩
    by_cases e : v = r
    · subst e; exact .refl
    · have h2 : updF (fun _ => false) r true v = true := hv
      rw [updF_ne _ _ e] at h2; cases h2
  exact sat_prog hl h0 h1 65 (ini r) I [r] (by simp) (fun u hu => by rw [List.mem_singleton.1 hu]; exact ⟨by omega, by omega, I.rt.1, fun c k => by rw [I.rt.2]; exact k.nn hl⟩) (by simp)
theorem isF_none {l : List Arc} (hl : ∀ a ∈ l, AOk a) {r : Int} (h : ¬ (1 ≤ r ∧ r ≤ 64)) (v : Int) : isF l r v = false := by
  have : ∀ (m : List Arc) (s : DS), s.1 = (fun _ => false) → (rndD m s).1 = fun _ => false := fun m => by
    induction m with
    | nil => intro s h; exact h
    | cons a m ih => intro s h; refine ih _ ?_; unfold rlx; rw [h]; simpa using h
  have : ∀ (k : Nat) (s : DS), s.1 = (fun _ => false) → (satD l k s).1 = fun _ => false := fun k => by
    induction k with
    | zero => intro s h; exact h
    | succ k ih => intro s h; exact ih _ (this l s h)
  unfold isF bfD
  rw [this 65 (ini r) (by unfold ini; rw [if_neg h])]
theorem isF_wk {l : List Arc} (hl : ∀ a ∈ l, AOk a) {r v : Int} (h : isF l r v = true) : Wk l r v (dF l r v) := by
  by_cases hr : 1 ≤ r ∧ r ≤ 64
  · exact (bf_all hl hr.1 hr.2).1.snd v h
  · rw [isF_none hl hr] at h; cases h
theorem wk_isF {l : List Arc} (hl : ∀ a ∈ l, AOk a) {r v c : Int} (hr : 1 ≤ r ∧ r ≤ 64 ∨ v ≠ r) (k : Wk l r v c) : isF l r v = true ∧ dF l r v ≤ c := by
  have hr : 1 ≤ r ∧ r ≤ 64 := by
    rcases hr with hr | hr
    · exact hr
    · rcases k.rngR hl with h | h
      · exact absurd h hr
      · exact h
  exact (bf_all hl hr.1 hr.2).2 v c k
theorem dF_root {l : List Arc} (hl : ∀ a ∈ l, AOk a) {r : Int} (h0 : 1 ≤ r) (h1 : r ≤ 64) : isF l r r = true ∧ dF l r r = 0 := (bf_all hl h0 h1).1.rt
/-- Costs are not too great. -/
def Bd (k : Nat) (s : DS) : Prop := ∀ v, 0 ≤ s.2 v ∧ s.2 v ≤ 1073741824 * (k : Int)
theorem rlx_bd {k : Nat} {s : DS} {a : Arc} (ha : AOk a) (h : Bd k s) : Bd (k + 1) (rlx s a) := by
  intro v
  have h1 := h v
  have h2 := h a.f
  unfold AOk at ha
  unfold rlx
  split
  · show 0 ≤ updF s.2 a.t _ v ∧ updF s.2 a.t _ v ≤ _
    unfold updF
    split <;> omega
  · omega
theorem rnd_bd : ∀ {m : List Arc} {k : Nat} {s : DS}, (∀ a ∈ m, AOk a) → Bd k s → Bd (k + m.length) (rndD m s)
  | [], _, _, _, h => h
  | a :: m, k, s, hm, h => by
    have := rnd_bd (m := m) (fun b hb => hm b (by simp [hb])) (rlx_bd (hm a (by simp)) h)
    rw [List.length_cons, show k + (m.length + 1) = k + 1 + m.length by omega]
    exact this
theorem sat_bd {l : List Arc} (hl : ∀ a ∈ l, AOk a) : ∀ (j : Nat) {k : Nat} {s : DS}, Bd k s → Bd (k + j * l.length) (satD l j s)
  | 0, k, s, h => by rw [Nat.zero_mul]; exact h
  | j + 1, k, s, h => by
    have := sat_bd hl j (rnd_bd hl h)
    rw [Nat.add_mul, Nat.one_mul, show k + (j * l.length + l.length) = k + l.length + j * l.length by omega]
    exact this
theorem dF_range {l : List Arc} (hl : ∀ a ∈ l, AOk a) (hll : l.length ≤ 1000000) (r v : Int) : 0 ≤ dF l r v ∧ dF l r v ≤ 69793218560000000 := by
  have h := sat_bd hl 65 (k := 0) (s := ini r) (fun v => ⟨Int.le_refl _, Int.le_refl _⟩) v
  unfold dF bfD
  omega
/-! ### The first hops of shortest ways -/
theorem Wk.pre {l : List Arc} {r v c : Int} {a : Arc} (ha : a ∈ l) (hf : a.f = r) (k : Wk l a.t v c) : Wk l r v (a.c + c) := by
  have h1 : Wk l r a.t (0 + a.c) := .step .refl ha hf
  rw [Int.zero_add] at h1
  exact h1.trans k
def FH (l : List Arc) (r v w : Int) : Prop := ∃ a ∈ l, a.f = r ∧ a.t = w ∧ ∃ c, Wk l w v c ∧ a.c + c = dF l r v
def IsVia (l : List Arc) (r v w : Int) : Prop := FH l r v w ∧ ∀ x, FH l r v x → w ≤ x
theorem IsVia.eq {l : List Arc} {r v w x : Int} (h : IsVia l r v w) (k : IsVia l r v x) : w = x := by
  have := h.2 x k.1
  have := k.2 w h.1
  omega
theorem fh_arc {l : List Arc} (hl : ∀ a ∈ l, AOk a) {r w v : Int} (h : FH l r v w) (hv : v ≠ r) : ∃ a ∈ l, a.t = v ∧ isF l r a.f = true ∧ dF l r a.f + a.c = dF l r v ∧ (a.f = r ∧ w = v ∨ a.f ≠ r ∧ FH l r a.f w) := by
  obtain ⟨a0, ha0, hf0, ht0, c, k, hc⟩ := h
  have hok0 := hl a0 ha0
  unfold AOk at hok0
  have hroot := dF_root hl (r := r) (by omega) (by omega)
  cases k with
  | refl => exact ⟨a0, ha0, ht0, by rw [hf0]; exact hroot.1, by rw [hf0, hroot.2]; omega, .inl ⟨hf0, rfl⟩⟩
  | @step u e a hu ha hf =>
    have h1 := wk_isF hl (r := r) (.inl (by omega)) (Wk.pre ha0 hf0 (by rw [ht0]; exact hu))
    have h2 := wk_isF hl (r := r) (.inl (by omega)) (Wk.step (isF_wk hl h1.1) ha hf)
    have hok := hl a ha
    have hn := hu.nn hl
    unfold AOk at hok
    have hne : a.f ≠ r := fun e' => by
      rw [hf] at e'
      rw [e', hroot.2] at h2
      omega
    refine ⟨a, ha, rfl, by rw [hf]; exact h1.1, by rw [hf]; omega, .inr ⟨hne, ?_⟩⟩
    rw [hf]
    exact ⟨a0, ha0, hf0, ht0, e, hu, by omega⟩
theorem fh_of {l : List Arc} (hl : ∀ a ∈ l, AOk a) {r w : Int} {a : Arc} (ha : a ∈ l) (hi : isF l r a.f = true) (hd : dF l r a.f + a.c = dF l r a.t) (h : a.f = r ∧ w = a.t ∨ FH l r a.f w) : FH l r a.t w := by
  rcases h with ⟨hf, rfl⟩ | h
  · have hok := hl a ha
    unfold AOk at hok
    have hroot := dF_root hl (r := r) (by omega) (by omega)
    rw [hf, hroot.2] at hd
    exact ⟨a, ha, hf, rfl, 0, .refl, by omega⟩
  · obtain ⟨a0, ha0, hf0, ht0, c, k, hc⟩ := h
    exact ⟨a0, ha0, hf0, ht0, c + a.c, .step k ha rfl, by omega⟩
def viaP (l : List Arc) (r v : Int) (a : Arc) : Bool := a.f == r && (isF l a.t v && (a.c + dF l a.t v == dF l r v))
def viaM (l : List Arc) (r v : Int) : Int := ((l.find? (viaP l r v)).map (·.t)).getD 0
theorem viaP_iff {l : List Arc} (hl : ∀ a ∈ l, AOk a) {r v : Int} {a : Arc} (ha : a ∈ l) : viaP l r v a = true ↔ a.f = r ∧ ∃ c, Wk l a.t v c ∧ a.c + c = dF l r v := by
  simp only [viaP, Bool.and_eq_true, beq_iff_eq]
  have hok := hl a ha
  unfold AOk at hok
  constructor
  · rintro ⟨h1, h2, h3⟩
    exact ⟨h1, _, isF_wk hl h2, h3⟩
  · rintro ⟨h1, c, k, hc⟩
    have h2 := wk_isF hl (r := a.t) (.inl (by omega)) k
    have h3 := wk_isF hl (r := r) (.inl (by omega)) (Wk.pre ha h1 (isF_wk hl h2.1))
    exact ⟨h1, h2.1, by omega⟩
theorem viaM_is {l : List Arc} (hl : ∀ a ∈ l, AOk a) (hs : l.Pairwise ltA) {r v w : Int} (h : FH l r v w) : IsVia l r v (viaM l r v) := by
  obtain ⟨a0, ha0, hf0, ht0, hc0⟩ := h
  have hp0 : viaP l r v a0 = true := (viaP_iff hl ha0).2 ⟨hf0, by rw [ht0]; exact hc0⟩
  unfold viaM
  cases hfi : l.find? (viaP l r v) with
  | none => have := List.find?_eq_none.1 hfi a0 ha0; exact absurd hp0 this
  | some a =>
    have ham := List.mem_of_find?_eq_some hfi
    obtain ⟨h1, h2⟩ := (viaP_iff hl ham).1 (List.find?_some hfi)
    refine ⟨⟨a, ham, h1, rfl, h2⟩, fun x hx => ?_⟩
    obtain ⟨b, hb, hbf, hbt, hbc⟩ := hx
    have hpb : viaP l r v b = true := (viaP_iff hl hb).2 ⟨hbf, by rw [hbt]; exact hbc⟩
    show a.t ≤ x
    rw [← hbt]
    obtain ⟨_, l1, l2, hlas, hno⟩ := List.find?_eq_some_iff_append.1 hfi
    rw [hlas] at hb hs
    rcases List.mem_append.1 hb with hb | hb
    · have := hno b hb; simp [hpb] at this
    · rcases List.mem_cons.1 hb with rfl | hb
      · exact Int.le_refl _
      · have := (List.pairwise_cons.1 (List.pairwise_append.1 hs).2.1).1 b hb
        unfold ltA at this
        omega
/-- A node that is reached, and is not the root, has a first hop. -/
theorem fh_ex {l : List Arc} (hl : ∀ a ∈ l, AOk a) {r v : Int} (h : isF l r v = true) (hv : v ≠ r) : ∃ w, FH l r v w := by
  have key : ∀ {v c : Int}, Wk l r v c → v ≠ r → c = dF l r v → ∃ w, FH l r v w := fun {v c} k => by
    induction k with
    | refl => intro h _; exact absurd rfl h
    | @step u e a hu ha hf ih =>
      intro hne hc
      have hok := hl a ha
      unfold AOk at hok
      by_cases e' : u = r
      · refine ⟨a.t, a, ha, by omega, rfl, 0, .refl, ?_⟩
        have h0 := dF_root hl (r := r) (by omega) (by omega)
        have h1 := wk_isF hl (r := r) (.inl (by omega)) hu
        have h2 := wk_isF hl (r := r) (.inl (by omega)) (Wk.step (isF_wk hl h0.1) ha (by omega))
        have hn := hu.nn hl
        omega
      · have hrr : 1 ≤ r ∧ r ≤ 64 := by
          rcases hu.rngR hl with h | h
          · exact absurd h e'
          · exact h
        have h1 := wk_isF hl (r := r) (.inl hrr) hu
        have h2 := wk_isF hl (r := r) (.inl hrr) (Wk.step (isF_wk hl h1.1) ha hf)
        obtain ⟨w, hw⟩ := ih e' (by omega)
        exact ⟨w, fh_of hl ha (by rw [hf]; exact h1.1) (by rw [hf]; omega) (.inr (by rw [hf]; exact hw))⟩
  exact key (isF_wk hl h) hv rfl
def routesM (l : List Arc) (r : Int) : List Rt := (((List.range 65).map fun (i : Nat) => (i : Int)).filter fun v => decide (v ≠ r) && isF l r v).map fun v => ⟨v, viaM l r v, dF l r v⟩
/-! ### The nearest one next -/
def leV (c v c' v' : Int) : Prop := c < c' ∨ c = c' ∧ v ≤ v'
/-- A route's end by an arc from a node that is done. -/
def hopV (r : Int) (known : Int → Option (Int × Int)) (a : Arc) : Int := if a.f = r then a.t else ((known a.f).getD (0, 0)).1
def hopC (r : Int) (known : Int → Option (Int × Int)) (a : Arc) : Int := if a.f = r then a.c else ((known a.f).getD (0, 0)).2 + a.c
structure DInv (l : List Arc) (r : Int) (known : Int → Option (Int × Int)) (done : Int → Bool) (hp : List (Int × Int)) (pend : Arc → Prop) : Prop where
  k1 : ∀ v p, known v = some p → v ≠ r ∧ ∃ a ∈ l, done a.f = true ∧ a.t = v ∧ p = (hopV r known a, hopC r known a)
  d1 : ∀ u, done u = true → u = r ∨ known u = some (viaM l r u, dF l r u) ∧ isF l r u = true
  d2 : ∀ a ∈ l, done a.f = true → a.t ≠ r → ¬ pend a → ∃ p, known a.t = some p ∧ leV p.2 p.1 (hopC r known a) (hopV r known a)
  h1 : ∀ v p, known v = some p → done v = false → (p.2, v) ∈ hp
  hr : done r = false → (0, r) ∈ hp
  h2 : ∀ c v, (c, v) ∈ hp → v = r ∨ ∃ p, known v = some p ∧ p.2 ≤ c
theorem dinv_new (l : List Arc) (r : Int) : DInv l r (fun _ => none) (fun _ => false) [(0, r)] (fun _ => False) where
  k1 := fun v p h => by cases h
  d1 := fun u h => by cases h
  d2 := fun a _ h => by cases h
  h1 := fun v p h => by cases h
  hr := fun _ => by simp
  h2 := fun c v h => by simp at h; exact .inl h.2
theorem DInv.hop {l : List Arc} {r : Int} {known : Int → Option (Int × Int)} {done : Int → Bool} {hp : List (Int × Int)} {pend : Arc → Prop} (hl : ∀ a ∈ l, AOk a) (I : DInv l r known done hp pend) {a : Arc} (ha : a ∈ l) (hd : done a.f = true) :
    isF l r a.f = true ∧ hopC r known a = dF l r a.f + a.c ∧ (a.f = r ∧ hopV r known a = a.t ∨ a.f ≠ r ∧ hopV r known a = viaM l r a.f) := by
  have hok := hl a ha
  unfold AOk at hok
  unfold hopC hopV
  by_cases e : a.f = r
  · have h0 := dF_root hl (r := r) (by omega) (by omega)
    rw [if_pos e, if_pos e, e, h0.2, Int.zero_add]
    exact ⟨h0.1, rfl, .inl ⟨rfl, rfl⟩⟩
  · rcases I.d1 _ hd with h | ⟨h, h3⟩
    · exact absurd h e
    · rw [if_neg e, if_neg e, h]
      exact ⟨h3, rfl, .inr ⟨e, rfl⟩⟩
theorem DInv.snd {l : List Arc} {r : Int} {known : Int → Option (Int × Int)} {done : Int → Bool} {hp : List (Int × Int)} {pend : Arc → Prop} (hl : ∀ a ∈ l, AOk a) (I : DInv l r known done hp pend) {v : Int} {p : Int × Int} (h : known v = some p) : Wk l r v p.2 ∧ 1 ≤ v ∧ v ≤ 64 ∧ (dF l r v = p.2 → FH l r v p.1) := by
  obtain ⟨hne, a, ha, hd, rfl, rfl⟩ := I.k1 v p h
  obtain ⟨h1, h2, h3⟩ := I.hop hl ha hd
  have hok := hl a ha
  unfold AOk at hok
  refine ⟨?_, by omega, by omega, fun e => ?_⟩
  · show Wk l r a.t (hopC r known a)
    rw [h2]
    exact .step (isF_wk hl h1) ha rfl
  · refine fh_of hl ha h1 (by rw [← h2]; exact e.symm) ?_
    rcases h3 with ⟨e1, e2⟩ | ⟨e1, e2⟩
    · exact .inl ⟨e1, e2⟩
    · right
      show FH l r a.f (hopV r known a)
      rw [e2]
      obtain ⟨w, hw⟩ := fh_ex hl h1 e1
      rcases I.d1 _ hd with h | ⟨hk, _⟩
      · exact absurd h e1
      · -- the via of a node that is done
        have : ∃ w, FH l r a.f w := ⟨w, hw⟩
        obtain ⟨a0, ha0, hf0, ht0, hc0⟩ := hw
        have hp0 : viaP l r a.f a0 = true := (viaP_iff hl ha0).2 ⟨hf0, by rw [ht0]; exact hc0⟩
        unfold viaM
        cases hfi : l.find? (viaP l r a.f) with
        | none => have := List.find?_eq_none.1 hfi a0 ha0; exact absurd hp0 this
        | some b =>
          have hbm := List.mem_of_find?_eq_some hfi
          obtain ⟨g1, g2⟩ := (viaP_iff hl hbm).1 (List.find?_some hfi)
          exact ⟨b, hbm, g1, rfl, g2⟩
theorem DInv.front {l : List Arc} {r : Int} {known : Int → Option (Int × Int)} {done : Int → Bool} {hp : List (Int × Int)} (hl : ∀ a ∈ l, AOk a) (I : DInv l r known done hp (fun _ => False)) {x e : Int} (k : Wk l r x e) (hx : done x = false) : ∃ c y, (c, y) ∈ hp ∧ c ≤ e := by
  induction k with
  | refl => exact ⟨0, r, I.hr hx, Int.le_refl _⟩
  | @step u e' a hu ha hf ih =>
    have hok := hl a ha
    unfold AOk at hok
    cases hd : done u with
    | false =>
      obtain ⟨c, y, h1, h2⟩ := ih hd
      exact ⟨c, y, h1, by omega⟩
    | true =>
      by_cases hr : a.t = r
      · rw [hr] at hx
        exact ⟨0, r, I.hr hx, by have := hu.nn hl; omega⟩
      · obtain ⟨p, h1, h2⟩ := I.d2 a ha (by rw [hf]; exact hd) hr (fun h => h)
        obtain ⟨h3, h4, _⟩ := I.hop hl ha (by rw [hf]; exact hd)
        refine ⟨p.2, a.t, I.h1 _ _ h1 hx, ?_⟩
        have h5 := wk_isF hl (r := r) (by rcases hu.rngR hl with h | h; exact .inl ⟨by omega, by omega⟩; exact .inl h) hu
        rw [hf] at h4
        unfold leV at h2
        omega
/-- The nearest one is taken: what is known of it is final. -/
theorem DInv.fin {l : List Arc} {r : Int} {known : Int → Option (Int × Int)} {done : Int → Bool} {hp : List (Int × Int)} (hl : ∀ a ∈ l, AOk a) (hs : l.Pairwise ltA) (I : DInv l r known done hp (fun _ => False)) {c n : Int} (hm : (c, n) ∈ hp) (hmin : ∀ e ∈ hp, c ≤ e.1) (hd : done n = false) (hn : n ≠ r) : known n = some (viaM l r n, dF l r n) ∧ isF l r n = true := by
  rcases I.h2 c n hm with h | ⟨p, hk, hp2⟩
  · exact absurd h hn
  · obtain ⟨hw, _, _, hfh⟩ := I.snd hl hk
    have h1 := wk_isF hl (.inr hn) hw
    obtain ⟨ce, y, hy, hce⟩ := I.front hl (isF_wk hl h1.1) hd
    have h2 := hmin _ hy
    have hpe : dF l r n = p.2 := by simp only at h2; omega
    have hv : p.1 = viaM l r n := by
      have hF := hfh hpe
      refine IsVia.eq ⟨hF, fun x hx => ?_⟩ (viaM_is hl hs hF)
      obtain ⟨a, ha, ht, hi, hda, hcase⟩ := fh_arc hl hx hn
      have hok := hl a ha
      unfold AOk at hok
      have hdone : done a.f = true := by
        cases hdf : done a.f with
        | true => rfl
        | false =>
          obtain ⟨c2, y2, hy2, hce2⟩ := I.front hl (isF_wk hl hi) hdf
          have := hmin _ hy2
          simp only at this
          omega
      obtain ⟨q, hq1, hq2⟩ := I.d2 a ha hdone (by rw [ht]; exact hn) (fun h => h)
      rw [ht, hk] at hq1
      cases hq1
      obtain ⟨_, h4, h5⟩ := I.hop hl ha hdone
      have hvx : hopV r known a ≤ x := by
        rcases h5 with ⟨e1, e2⟩ | ⟨e1, e2⟩
        · rcases hcase with ⟨_, e3⟩ | ⟨e3, _⟩
          · omega
          · exact absurd e1 e3
        · rcases hcase with ⟨e3, _⟩ | ⟨_, e3⟩
          · exact absurd e3 e1
          · have := (viaM_is hl hs e3).2 x e3
            omega
      unfold leV at hq2
      omega
    refine ⟨?_, h1.1⟩
    rw [hk, hpe, ← hv]
/-- One is taken that was done. -/
theorem DInv.old {l : List Arc} {r : Int} {known : Int → Option (Int × Int)} {done : Int → Bool} {hp hp' : List (Int × Int)} {pend : Arc → Prop} (I : DInv l r known done hp pend) {c n : Int} (hpm : hp.Perm ((c, n) :: hp')) (hd : done n = true) : DInv l r known done hp' pend where
  k1 := I.k1
  d1 := I.d1
  d2 := I.d2
  h1 := fun v p h1 h2 => by
    rcases List.mem_cons.1 (hpm.mem_iff.1 (I.h1 v p h1 h2)) with h | h
    · cases h; rw [hd] at h2; cases h2
    · exact h
  hr := fun h2 => by
    rcases List.mem_cons.1 (hpm.mem_iff.1 (I.hr h2)) with h | h
    · cases h; rw [hd] at h2; cases h2
    · exact h
  h2 := fun c v h => I.h2 c v (hpm.mem_iff.2 (by simp [h]))
/-- The nearest one is done. -/
theorem DInv.take {l : List Arc} {r : Int} {known : Int → Option (Int × Int)} {done : Int → Bool} {hp hp' : List (Int × Int)} (hl : ∀ a ∈ l, AOk a) (hs : l.Pairwise ltA) (I : DInv l r known done hp (fun _ => False)) {c n : Int} (hpm : hp.Perm ((c, n) :: hp')) (hmin : ∀ e ∈ hp, c ≤ e.1) (hd : done n = false) : DInv l r known (updF done n true) hp' (fun a => a.f = n) := by
  have hne : ∀ v, updF done n true v = false → v ≠ n ∧ done v = false := fun v h => by
    by_cases e : v = n
    · subst e; rw [updF_same] at h; cases h
    · rw [updF_ne _ _ e] at h; exact ⟨e, h⟩
  have hup : ∀ v, done v = true → updF done n true v = true := fun v h => by
    by_cases e : v = n
    · subst e; exact updF_same _ _ _
    · rw [updF_ne _ _ e]; exact h
  refine ⟨fun v p h => ?_, fun u h => ?_, fun a ha h ht hp => ?_, fun v p h1 h2 => ?_, fun h2 => ?_, fun c v h => I.h2 c v (hpm.mem_iff.2 (by simp [h]))⟩
  · obtain ⟨h1, a, ha, h2, h3⟩ := I.k1 v p h
    exact ⟨h1, a, ha, hup _ h2, h3⟩
  · by_cases e : u = n
    · subst e
      by_cases hr : u = r
      · exact .inl hr
      · exact .inr (I.fin hl hs (hpm.mem_iff.2 (by simp)) hmin hd hr)
    · rw [updF_ne _ _ e] at h; exact I.d1 u h
  · rw [updF_ne _ _ hp] at h
    exact I.d2 a ha h ht (fun h => h)
  · obtain ⟨e, h3⟩ := hne v h2
    rcases List.mem_cons.1 (hpm.mem_iff.1 (I.h1 v p h1 h3)) with h | h
    · cases h; exact absurd rfl e
    · exact h
  · obtain ⟨e, h3⟩ := hne r h2
    rcases List.mem_cons.1 (hpm.mem_iff.1 (I.hr h3)) with h | h
    · cases h; exact absurd rfl e
    · exact h
/-- What is known when an arc from the node that is done last is looked at. -/
theorem DInv.skip {l : List Arc} {r : Int} {known : Int → Option (Int × Int)} {done : Int → Bool} {hp : List (Int × Int)} {pend pend' : Arc → Prop} (hl : ∀ a ∈ l, AOk a) (hs : l.Pairwise ltA) (I : DInv l r known done hp pend) {a : Arc} (hpe : ∀ b, pend b → pend' b ∨ b = a) (hsk : a.t = r ∨ done a.t = true) : DInv l r known done hp pend' := by
  refine ⟨I.k1, I.d1, fun b hb h ht hp => ?_, I.h1, I.hr, I.h2⟩
  by_cases e : pend b
  · rcases hpe b e with h' | rfl
    · exact absurd h' hp
    · rcases hsk with h' | h'
      · exact absurd h' ht
      · rcases I.d1 _ h' with h'' | ⟨hk, hi⟩
        · exact absurd h'' ht
        · obtain ⟨h1, h2, h3⟩ := I.hop hl hb h
          refine ⟨_, hk, ?_⟩
          have h4 := wk_isF hl (.inr ht) (Wk.step (isF_wk hl h1) hb rfl)
          unfold leV
          rw [h2]
          by_cases heq : dF l r b.t = dF l r b.f + b.c
          · right
            refine ⟨heq, ?_⟩
            obtain ⟨w, hw⟩ := fh_ex hl hi ht
            refine (viaM_is hl hs hw).2 _ (fh_of hl hb h1 heq.symm ?_)
            rcases h3 with ⟨e1, e2⟩ | ⟨e1, e2⟩
            · exact .inl ⟨e1, e2⟩
            · right
              rw [e2]
              obtain ⟨w, hw⟩ := fh_ex hl h1 e1
              exact (viaM_is hl hs hw).1
          · left
            show dF l r b.t < _
            omega
  · exact I.d2 b hb h ht e
/-- What is known is no worse. -/
theorem DInv.keep {l : List Arc} {r : Int} {known : Int → Option (Int × Int)} {done : Int → Bool} {hp : List (Int × Int)} {pend pend' : Arc → Prop} (I : DInv l r known done hp pend) {a : Arc} (hpe : ∀ b, pend b → pend' b ∨ b = a) {p : Int × Int} (hk : known a.t = some p) (hle : leV p.2 p.1 (hopC r known a) (hopV r known a)) : DInv l r known done hp pend' := by
  refine ⟨I.k1, I.d1, fun b hb h ht hp => ?_, I.h1, I.hr, I.h2⟩
  by_cases e : pend b
  · rcases hpe b e with h' | rfl
    · exact absurd h' hp
    · exact ⟨p, hk, hle⟩
  · exact I.d2 b hb h ht e
/-- What is known is worse, or nothing. -/
theorem DInv.put {l : List Arc} {r : Int} {known : Int → Option (Int × Int)} {done : Int → Bool} {hp hp' : List (Int × Int)} {pend pend' : Arc → Prop} (I : DInv l r known done hp pend) {a : Arc} (ha : a ∈ l) (hd : done a.f = true) (hpe : ∀ b, pend b → pend' b ∨ b = a) (hsk : a.t ≠ r) (hnd : done a.t = false)
    (hle : ∀ p, known a.t = some p → leV (hopC r known a) (hopV r known a) p.2 p.1) (hin : ∀ e ∈ hp, e ∈ hp') (hnew : (hopC r known a, a.t) ∈ hp') (hall : ∀ e ∈ hp', e ∈ hp ∨ e = (hopC r known a, a.t)) : DInv l r (updF known a.t (some (hopV r known a, hopC r known a))) done hp' pend' := by
  have hsame : ∀ b : Arc, done b.f = true → hopV r (updF known a.t (some (hopV r known a, hopC r known a))) b = hopV r known b ∧ hopC r (updF known a.t (some (hopV r known a, hopC r known a))) b = hopC r known b := fun b hb => by
    have hne : b.f ≠ a.t := fun e => by rw [e, hnd] at hb; cases hb
    unfold hopV hopC
    rw [updF_ne _ _ hne]
    exact ⟨rfl, rfl⟩
  refine ⟨fun v p h => ?_, fun u h => ?_, fun b hb h ht hp => ?_, fun v p h1 h2 => ?_, fun h => hin _ (I.hr h), fun c v h => ?_⟩
  · by_cases e : v = a.t
    · subst e
      rw [updF_same] at h
      cases h
      exact ⟨hsk, a, ha, hd, rfl, by rw [(hsame a hd).1, (hsame a hd).2]⟩
    · rw [updF_ne _ _ e] at h
      obtain ⟨h1, b, hb, h2, h3, h4⟩ := I.k1 v p h
      exact ⟨h1, b, hb, h2, h3, by rw [(hsame b h2).1, (hsame b h2).2]; exact h4⟩
  · have hne : u ≠ a.t := fun e => by rw [e, hnd] at h; cases h
    rw [updF_ne _ _ hne]
    exact I.d1 u h
  · rw [(hsame b h).1, (hsame b h).2]
    by_cases et : b.t = a.t
    · rw [et, updF_same]
      refine ⟨_, rfl, ?_⟩
      by_cases e : pend b
      · rcases hpe b e with h' | rfl
        · exact absurd h' hp
        · exact .inr ⟨rfl, Int.le_refl _⟩
      · obtain ⟨p, hk, hq⟩ := I.d2 b hb h ht e
        rw [et] at hk
        have := hle p hk
        unfold leV at *
        simp only
        omega
    · rw [updF_ne _ _ et]
      by_cases e : pend b
      · rcases hpe b e with h' | rfl
        · exact absurd h' hp
        · exact absurd rfl et
      · exact I.d2 b hb h ht e
  · by_cases e : v = a.t
    · subst e
      rw [updF_same] at h1
      cases h1
      exact hnew
    · rw [updF_ne _ _ e] at h1
      exact hin _ (I.h1 v p h1 h2)
  · rcases hall _ h with h | h
    · rcases I.h2 c v h with h | ⟨p, h1, h2⟩
      · exact .inl h
      · right
        by_cases e : v = a.t
        · subst e
          rw [updF_same]
          refine ⟨_, rfl, ?_⟩
          have := hle p h1
          unfold leV at this
          simp only
          omega
        · rw [updF_ne _ _ e]; exact ⟨p, h1, h2⟩
    · cases h
      right
      rw [updF_same]
      exact ⟨_, rfl, Int.le_refl _⟩
/-- All is done: what is known is what there is. -/
theorem DInv.done {l : List Arc} {r : Int} {known : Int → Option (Int × Int)} {done : Int → Bool} (hl : ∀ a ∈ l, AOk a) (I : DInv l r known done [] (fun _ => False)) (v : Int) : known v = if v ≠ r ∧ isF l r v = true then some (viaM l r v, dF l r v) else none := by
  have hall : ∀ v p, known v = some p → done v = true := fun v p h => by
    cases hd : done v with
    | true => rfl
    | false => have := I.h1 v p h hd; simp at this
  cases hk : known v with
  | some p =>
    obtain ⟨hne, _⟩ := I.k1 v p hk
    rcases I.d1 v (hall v p hk) with h | ⟨h1, h2⟩
    · exact absurd h hne
    · rw [if_pos ⟨hne, h2⟩, ← h1, hk]
  | none =>
    split
    · rename_i h
      exfalso
      cases hd : done v with
      | true =>
        rcases I.d1 v hd with e | ⟨h1, _⟩
        · exact h.1 e
        · rw [hk] at h1; cases h1
      | false =>
        obtain ⟨c, y, hy, _⟩ := I.front hl (isF_wk hl h.2) hd
        simp at hy
    · rfl
end A
end Go.Proofs.Ytmcannmjielalaa
set_option linter.unusedVariables false
set_option linter.unusedSimpArgs false
namespace Go.Proofs.Ytmcannmjielalaa
namespace A
theorem el_261 : elemOf Try.prog 261 = some (162, 2, 16) := by kernel_rfl
theorem es_261 : elemSize Try.prog 261 = some 2 := by kernel_rfl
theorem fd_162_0 : fieldOf Try.prog 162 0 = some (0, 1, false) := by kernel_rfl
theorem fd_162_1 : fieldOf Try.prog 162 1 = some (1, 1, false) := by kernel_rfl
theorem fd_263_0 : fieldOf Try.prog 263 0 = some (0, 1, false) := by kernel_rfl
theorem pt_159 : isPtrT Try.prog 159 = true := by kernel_rfl
theorem sl_261 : isSl Try.prog 261 = true := by kernel_rfl
theorem ty_162 : tyOf Try.prog 162 = some (2, true) := by kernel_rfl
theorem ty_261 : tyOf Try.prog 261 = some (1, false) := by kernel_rfl
theorem ty_37 : tyOf Try.prog 37 = some (1, false) := by kernel_rfl
theorem us_261 : Try.prog.underlying 261 = some (.slice 162) := by kernel_rfl
theorem ze_162 : zeroOf Try.prog 162 = some (.agg #[.int .u64 0, .int .i64 0]) := by kernel_rfl
def spC (p : Int × Int) : List AV := [.v (.int .u64 p.1), .int p.2]
/- cost.Far -/
set_option maxRecDepth 100000 in
set_option maxHeartbeats 400000 in
theorem cost_Far  : Triple Try.prog 226 [] [] (Is (.v (.int .u64 18446744073709551615)) []) := by
  refine triple_of Try.func226 rfl (by kernel_rfl) rfl (by simp) ?_
  refine aSeq ?_
  refine aReg ?_
  refine sp pMa ?_
  refine oNil ?_
  refine aSeq ?_
  refine aReg ?_
  refine sp pMa ?_
  refine oNil ?_
  refine aRet ?_
  refine finIs rfl ?_
  rfl
/- cost.Add -/
set_option maxRecDepth 100000 in
set_option maxHeartbeats 400000 in
theorem cost_Add {a b : Int} (ha : 0 ≤ a) (hb : 0 ≤ b) (ha2 : a ≤ 18446744073709551615) (hb2 : b ≤ 18446744073709551615) : Triple Try.prog 135 [.v (.int .u64 a), .v (.int .u64 b)] [] (Is (.v (.int .u64 (if a > 18446744073709551615 - b then 18446744073709551615 else a + b))) []) := by
  refine triple_of Try.func135 rfl (by kernel_rfl) rfl (by simp) ?_
  refine aSeq ?_
  refine aReg ?_
  refine sp pMa ?_
  refine oNil ?_
  refine aSeq ?_
  refine aSeq ?_
  refine aReg ?_
  refine sp pM ?_
  refine sq ?_
  refine cv rfl rfl rfl (lents_refl _) cost_Far ?_
  refine sp pM ?_
  refine sp (by first | exact pSuK | exact pB) ?_
  refine sp pB ?_
  refine oNil ?_
  refine aCondDec rfl (fun c9 => ?_) (fun c9 => ?_)
  · skip
    refine aSeq ?_
    refine aReg ?_
    refine sq ?_
    refine cv rfl rfl rfl (lents_refl _) cost_Far ?_
    refine sp pMa ?_
    refine oNil ?_
    refine aRet ?_
    refine finIs rfl ?_
    rw [if_pos (by assumption)]
    rfl
  · skip
    refine aSkip ?_
    refine aSeq ?_
    refine aReg ?_
    refine sp pM ?_
    refine sp pM ?_
    refine sp (by first | exact pAdK | exact pB) ?_
    refine sp pMa ?_
    refine oNil ?_
    refine aRet ?_
    refine finIs rfl ?_
    rw [if_neg (by assumption)]
    rfl
/- cost.Less -/
set_option maxRecDepth 100000 in
set_option maxHeartbeats 400000 in
theorem cost_Less {a b : Int × Int} : Triple Try.prog 266 [.agg (spC a), .agg (spC b)] [] (Is (.v (.bool (lessS a b))) []) := by
  refine triple_of Try.func266 rfl (by kernel_rfl) rfl (by simp) ?_
  refine aSeq ?_
  refine aReg ?_
  refine sq ?_
  refine qBox rfl rfl (by decide) rfl rfl (fun b2 => ?_)
  refine sq ?_
  refine qBox rfl rfl (by decide) rfl rfl (fun b3 => ?_)
  refine sp pMa ?_
  refine oNil ?_
  refine aSeq ?_
  refine aSeq ?_
  refine aReg ?_
  refine sp (pFb fd_162_0) ?_
  refine sr (rB1 ty_37) ?_
  refine sp (pFb fd_162_0) ?_
  refine sr (rB1 ty_37) ?_
  refine sp pB ?_
  refine oNil ?_
  refine aCondNe rfl (fun c9 => ?_) (fun c9 => ?_)
  · skip
    refine aSeq ?_
    refine aReg ?_
    refine sp (pFb fd_162_0) ?_
    refine sr (rB1 ty_37) ?_
    refine sp (pFb fd_162_0) ?_
    refine sr (rB1 ty_37) ?_
    refine sp pB ?_
    refine sp pMa ?_
    refine oNil ?_
    refine aRet ?_
    refine finIs rfl ?_
    unfold lessS
    rw [if_pos (by assumption)]
    rfl
  · skip
    refine aSkip ?_
    refine aSeq ?_
    refine aReg ?_
    refine sp (pFb fd_162_1) ?_
    refine sr (rB1 ty_3) ?_
    refine sp (pFb fd_162_1) ?_
    refine sr (rB1 ty_3) ?_
    refine sp pB ?_
    refine sp pMa ?_
    refine oNil ?_
    refine aRet ?_
    refine finIs rfl ?_
    unfold lessS
    rw [if_neg (by omega)]
    rfl
/- heap.Heap).Put -/
def heap_Put_r2_T : Bool × List (List Nat × List Nat) := (true, [([], []), ([], []), ([1], [1]), ([2], [2]), ([3], [3]), ([], []), ([5], [5]), ([4, 6], [4, 6]), ([0, 0, 1, 2, 3, 4, 5, 6, 7], [0]), ([8, 0, 1, 2, 3, 4, 5, 6, 7], [8]), ([9, 7, 7, 0, 1, 2, 3, 4, 5, 6, 7], [7, 9])])
def heap_Put_r2_B : List Nat := [0, 0, 2, 6, 14, 0, 32, 126, 255, 511, 1023]
theorem heap_Put_r2_t : Go.Proofs.YtmcannmjielalaaW.PrintLast.rtab .any (Go.Proofs.YtmcannmjielalaaW.PrintLast.opsOf Try.f219 2) = heap_Put_r2_T := by kernel_rfl
theorem heap_Put_r2_b : Go.Proofs.YtmcannmjielalaaW.PrintLast.waitsOk heap_Put_r2_T.2 heap_Put_r2_B = true := by kernel_rfl
def heap_Put_r6_T : Bool × List (List Nat × List Nat) := (true, [([], []), ([0], [0]), ([1], [1]), ([2], [2]), ([], []), ([3, 4], [3, 4]), ([5], [5]), ([], []), ([7], [7]), ([8], [8]), ([9], [9]), ([], []), ([10, 11], [10, 11]), ([12], [12]), ([6, 13], [6, 13]), ([14], [14])])
def heap_Put_r6_B : List Nat := [0, 1, 3, 7, 0, 31, 63, 0, 128, 384, 896, 0, 3968, 8064, 16383, 32767]
theorem heap_Put_r6_t : Go.Proofs.YtmcannmjielalaaW.PrintLast.rtab .any (Go.Proofs.YtmcannmjielalaaW.PrintLast.opsOf Try.f219 6) = heap_Put_r6_T := by kernel_rfl
theorem heap_Put_r6_b : Go.Proofs.YtmcannmjielalaaW.PrintLast.waitsOk heap_Put_r6_T.2 heap_Put_r6_B = true := by kernel_rfl
def heap_Put_r7_T : Bool × List (List Nat × List Nat) := (true, [([], []), ([0], [0]), ([1], [1]), ([2], [2]), ([], []), ([], []), ([5], [5]), ([6], [6]), ([7], [7]), ([], []), ([], []), ([10], [10]), ([11], [11]), ([12], [12]), ([], []), ([13, 14], [13, 14]), ([15], [15]), ([], []), ([17], [17]), ([18], [18]), ([19], [19]), ([], []), ([20, 21], [20, 21]), ([22], [22]), ([3, 4, 0, 1, 2, 3, 4, 8, 10, 11, 12, 13, 14, 15, 16, 20, 23], [3, 4]), ([24, 16, 0, 1, 2, 3, 4, 8, 10, 11, 12, 13, 14, 15, 16, 20, 23], [16, 24]), ([8, 9, 0, 1, 2, 3, 4, 5, 6, 7, 8, 9, 10, 11, 12, 13, 14, 15, 16, 17, 18, 19, 20, 21, 22, 23, 24, 25], [8, 9]), ([26, 23, 25, 0, 1, 2, 3, 4, 5, 6, 7, 8, 9, 10, 11, 12, 13, 14, 15, 16, 17, 18, 19, 20, 21, 22, 23, 24, 25], [23, 26])])
def heap_Put_r7_B : List Nat := [0, 1, 3, 7, 0, 0, 32, 96, 224, 0, 0, 1024, 3072, 7168, 0, 31744, 64512, 0, 131072, 393216, 917504, 0, 4063232, 8257536, 16776703, 33553919, 67108863, 134217727]
theorem heap_Put_r7_t : Go.Proofs.YtmcannmjielalaaW.PrintLast.rtab .any (Go.Proofs.YtmcannmjielalaaW.PrintLast.opsOf Try.f219 7) = heap_Put_r7_T := by kernel_rfl
theorem heap_Put_r7_b : Go.Proofs.YtmcannmjielalaaW.PrintLast.waitsOk heap_Put_r7_T.2 heap_Put_r7_B = true := by kernel_rfl
set_option maxRecDepth 100000 in
set_option maxHeartbeats 2000000 in
theorem heap_Put (hb : Nat) (g : Option Nat) (c : Nat) (l : List (Int × Int)) (s : Int × Int) (hk : HeapOk l) (hll : l.length ≤ 10000000) : Triple Try.prog 219 [(.v (.pointer (some ⟨hb, 0, none⟩))), .agg (spC s)] [.box hb [.v (slV g l.length c)], .sl g c 162 2 (l.map spC)] (fun r h' => ∃ g' c' l', r = .tup [] ∧ h' = [.box hb [.v (slV g' l'.length c')], .sl g' c' 162 2 (l'.map spC)] ∧ HeapOk l' ∧ l'.Perm (l ++ [s])) := by
  refine triple_of Try.func219 rfl (by kernel_rfl) rfl (by simp) ?_
  refine aSeq ?_
  refine aReg ?_
  refine sq ?_
  refine qBox rfl rfl (by decide) rfl rfl (fun b3 => ?_)
  refine oNil ?_
  refine aSeq ?_
  refine aSeq ?_
  refine aReg ?_
  refine sp pM ?_
  refine sp (by first | exact pPtrNil rfl (.inl rfl) rfl pt_159 rfl rfl | exact pSpNil rfl (.inl rfl) rfl pt_159 rfl) ?_
  refine oNil ?_
  refine aCondF rfl ?_
  refine aSkip ?_
  refine aSeq ?_
  refine aDrawT heap_Put_r2_t heap_Put_r2_b [7, 10] 11 #[false, false, false, false, false, false, false, false, false, false, false] (by kernel_rfl) rfl rfl (fun HT => ?_)
  refine dp HT 0 rfl pM ?_
  refine dp HT 1 rfl pM ?_
  refine dp HT 2 rfl pNv ?_
  refine dp HT 3 rfl (pFb fd_263_0) ?_
  refine dr HT 4 rfl (rB1 ty_261) ?_
  refine dr HT 5 rfl (by first | exact rBWa ty_162 | exact rBW ty_162 | exact rBA ty_162) ?_
  refine dGo ?_
  refine e1 HT 6 rfl ?_
  refine qLit (l := [_]) rfl rfl (by decide) us_261 ty_162 ze_162 rfl (by decide) (by decide) rfl rfl rfl (fun b14 => ?_)
  refine eLast ?_
  refine f1 HT 7 rfl ?_
  refine oAppT ([s] : List (Int × Int)) rfl rfl (by repeat constructor) (srcOwn rfl (by repeat constructor) rfl) el_261 sl_261 (fun g15 k15 => ?_)
  refine fp HT 8 rfl pNv ?_
  refine fp HT 9 rfl (pFb fd_263_0) ?_
  refine f1 HT 10 rfl ?_
  refine oStB rfl rfl rfl rfl (by repeat constructor) ty_261 rfl (Nat.le_of_ble_eq_true rfl) rfl ?_
  refine fE HT ?_
  clear HT
  refine aSeq ?_
  have hls : (l ++ [s]).length = l.length + 1 := by simp
  refine aSome (g := g15) (by repeat constructor) (by simp) (fun b hbb => ?_)
  subst hbb
  refine aReg ?_
  refine sp pM ?_
  refine sp pNv ?_
  refine sp (pFb fd_263_0) ?_
  refine sr (rB1 ty_261) ?_
  refine sp (by first | exact pLm sl_261 | exact pLs sl_261 | exact pLv sl_261) ?_
  refine sp pSu ?_
  refine sp pMa ?_
  refine oNil ?_
  refine aBlock ?_
  refine loopF (α := Nat × List (Int × Int)) (kept := [(0, _)]) (fun (i, h) => h.length = (l ++ [s]).length ∧ i < h.length ∧ UpOk h i ∧ h.Perm (l ++ [s])) (fun (i, h) => [(4, .int i)]) (fun (i, h) => [.box hb [.v (slV (some b) (l ++ [s]).length k15)], .sl (some b) k15 162 2 (h.map spC)]) (fun (i, h) => i) (l.length, l ++ [s]) ?_ ⟨gInt rfl (by first | rfl | omega | simp), rfl, trivial⟩ (by repeat constructor) ?_
  · skip
    exact ⟨rfl, by simp, up_new hk, .refl _⟩
  · rintro ⟨i, h⟩ ⟨hlen, hi, hu, hpm⟩
    refine aSeq ?_
    refine aSeq ?_
    refine aReg ?_
    refine sp pM ?_
    refine sp pB ?_
    refine oNil ?_
    refine aCondDec rfl (fun c25 => ?_) (fun c25 => ?_)
    · skip
      refine aSkip ?_
      refine aBlock ?_
      refine aSeq ?_
      refine aReg ?_
      refine sp pM ?_
      refine sp pSu ?_
      refine sp (pQuoI rfl rfl rfl (by omega) (by rw [Int.tdiv_eq_ediv_of_nonneg (by omega)]; omega) (by rw [Int.tdiv_eq_ediv_of_nonneg (by omega)]; omega)) ?_
      rw [show ((i : Int) - 1).tdiv 2 = (((i - 1) / 2 : Nat) : Int) by rw [Int.tdiv_eq_ediv_of_nonneg (by omega)]; omega]
      refine sp pMa ?_
      refine oNil ?_
      refine aSeq ?_
      refine aSeq ?_
      have hq2 : (i - 1) / 2 < h.length := by omega
      obtain ⟨x, hx⟩ : ∃ x, h[i]? = some x := ⟨_, List.getElem?_eq_getElem (by omega)⟩
      obtain ⟨y, hy⟩ : ∃ y, h[(i - 1) / 2]? = some y := ⟨_, List.getElem?_eq_getElem (by omega)⟩
      refine aDrawT heap_Put_r6_t heap_Put_r6_b [] 16 #[false, false, false, false, false, false, false, false, false, false, false, false, false, false, false, false] (by kernel_rfl) rfl rfl (fun HT => ?_)
      refine dp HT 0 rfl pM ?_
      refine dp HT 1 rfl pNv ?_
      refine dp HT 2 rfl (pFb fd_263_0) ?_
      refine dr HT 3 rfl (rB1 ty_261) ?_
      refine dp HT 4 rfl pM ?_
      first | refine dp HT 5 rfl (pIx es_261) ?_ | (refine obtDN 32 33 rfl rfl (by omega) (fun x34 hx34 => ?_); refine dp HT 5 rfl (pIs es_261 hx34) ?_) | (refine obtD 32 33 rfl rfl (by omega) (by omega) (fun x34 hx34 => ?_); refine dp HT 5 rfl (pIs es_261 hx34) ?_) | refine dp HT 5 rfl (pIo es_261) ?_
      refine dr HT 6 rfl (rOA ty_162 hx) ?_
      refine dp HT 7 rfl pM ?_
      refine dp HT 8 rfl pNv ?_
      refine dp HT 9 rfl (pFb fd_263_0) ?_
      refine dr HT 10 rfl (rB1 ty_261) ?_
      refine dp HT 11 rfl pM ?_
      first | refine dp HT 12 rfl (pIx es_261) ?_ | (refine obtDN 39 40 rfl rfl (by omega) (fun x41 hx41 => ?_); refine dp HT 12 rfl (pIs es_261 hx41) ?_) | (refine obtD 39 40 rfl rfl (by omega) (by omega) (fun x41 hx41 => ?_); refine dp HT 12 rfl (pIs es_261 hx41) ?_) | refine dp HT 12 rfl (pIo es_261) ?_
      refine dr HT 13 rfl (rOA ty_162 hy) ?_
      refine dGo ?_
      refine e1 HT 14 rfl ?_
      refine cv rfl rfl rfl (lents_refl _) cost_Less ?_
      refine ef HT 15 rfl pNo ?_
      refine eE HT ?_
      clear HT
      refine aCondNot rfl (fun c44 => ?_) (fun c44 => ?_)
      · skip
        refine aRet ?_
        exact ⟨_, [_, _], _, rfl, (by repeat constructor), some b, k15, h, rfl, by rw [hlen], up_end hu (.inr (fun x' y' hx' hy' => by rw [hx] at hx'; rw [hy] at hy'; cases hx'; cases hy'; assumption)), hpm⟩
      · skip
        refine aSkip ?_
        refine aSeq ?_
        have hsw : swapH h i ((i - 1) / 2) = (h.set i y).set ((i - 1) / 2) x := by simp [swapH, List.getD, hx, hy]
        refine aDrawT heap_Put_r7_t heap_Put_r7_b [25, 27] 28 #[false, false, false, false, false, false, false, false, false, false, false, false, false, false, false, false, false, false, false, false, false, false, false, false, false, false, false, false] (by kernel_rfl) rfl rfl (fun HT => ?_)
        refine dp HT 0 rfl pM ?_
        refine dp HT 1 rfl pNv ?_
        refine dp HT 2 rfl (pFb fd_263_0) ?_
        refine dr HT 3 rfl (rB1 ty_261) ?_
        refine dp HT 4 rfl pM ?_
        refine dp HT 5 rfl pM ?_
        refine dp HT 6 rfl pNv ?_
        refine dp HT 7 rfl (pFb fd_263_0) ?_
        refine dr HT 8 rfl (rB1 ty_261) ?_
        refine dp HT 9 rfl pM ?_
        refine dp HT 10 rfl pM ?_
        refine dp HT 11 rfl pNv ?_
        refine dp HT 12 rfl (pFb fd_263_0) ?_
        refine dr HT 13 rfl (rB1 ty_261) ?_
        refine dp HT 14 rfl pM ?_
        first | refine dp HT 15 rfl (pIx es_261) ?_ | (refine obtDN 58 59 rfl rfl (by omega) (fun x60 hx60 => ?_); refine dp HT 15 rfl (pIs es_261 hx60) ?_) | (refine obtD 58 59 rfl rfl (by omega) (by omega) (fun x60 hx60 => ?_); refine dp HT 15 rfl (pIs es_261 hx60) ?_) | refine dp HT 15 rfl (pIo es_261) ?_
        refine dr HT 16 rfl (rOA ty_162 hy) ?_
        refine dp HT 17 rfl pM ?_
        refine dp HT 18 rfl pNv ?_
        refine dp HT 19 rfl (pFb fd_263_0) ?_
        refine dr HT 20 rfl (rB1 ty_261) ?_
        refine dp HT 21 rfl pM ?_
        first | refine dp HT 22 rfl (pIx es_261) ?_ | (refine obtDN 65 66 rfl rfl (by omega) (fun x67 hx67 => ?_); refine dp HT 22 rfl (pIs es_261 hx67) ?_) | (refine obtD 65 66 rfl rfl (by omega) (by omega) (fun x67 hx67 => ?_); refine dp HT 22 rfl (pIs es_261 hx67) ?_) | refine dp HT 22 rfl (pIo es_261) ?_
        refine dr HT 23 rfl (rOA ty_162 hx) ?_
        first | refine dp HT 24 rfl (pIx es_261) ?_ | (refine obtDN 48 49 rfl rfl (by omega) (fun x69 hx69 => ?_); refine dp HT 24 rfl (pIs es_261 hx69) ?_) | (refine obtD 48 49 rfl rfl (by omega) (by omega) (fun x69 hx69 => ?_); refine dp HT 24 rfl (pIs es_261 hx69) ?_) | refine dp HT 24 rfl (pIo es_261) ?_
        refine dGo ?_
        refine eLast ?_
        refine f1 HT 25 rfl ?_
        refine oStE (fC := spC) (l := h) (a := y) (i := (i : Int)) rfl rfl rfl rfl ty_162 ?_
        first | refine fp HT 26 rfl (pIx es_261) ?_ | (refine obtFN 53 54 rfl rfl (by omega) (fun x70 hx70 => ?_); refine fp HT 26 rfl (pIs es_261 hx70) ?_) | (refine obtF 53 54 rfl rfl (by omega) (by omega) (fun x70 hx70 => ?_); refine fp HT 26 rfl (pIs es_261 hx70) ?_) | refine fp HT 26 rfl (pIo es_261) ?_
        refine f1 HT 27 rfl ?_
        refine oStE (hi := by rw [List.length_set]; omega) (fC := spC) (a := x) (i := (((i - 1) / 2 : Nat) : Int)) rfl rfl rfl rfl ty_162 ?_
        simp only [Int.toNat_natCast]
        rw [← hsw]
        refine fE HT ?_
        clear HT
        refine aReg ?_
        refine sp pM ?_
        refine sp pMa ?_
        refine oNil ?_
        refine ⟨((i - 1) / 2, swapH h i ((i - 1) / 2)), ?_, by (try dsimp only); omega, ⟨gInt rfl (by first | rfl | omega | simp), rfl, trivial⟩, _, (by repeat constructor)⟩
        exact ⟨by rw [swapH_len]; exact hlen, by rw [swapH_len]; omega, up_swap hi (by omega) hu hx hy (by assumption), (swapH_perm hi (by omega)).trans hpm⟩
    · skip
      refine aExit rfl ?_
      exact ⟨_, [_, _], _, rfl, (by repeat constructor), some b, k15, h, rfl, by rw [hlen], up_end hu (.inl (by omega)), hpm⟩
def LInv (l : List (Int × Int)) (i m k : Nat) : Prop := (m ≠ i → m < l.length) ∧ (m = i ∨ (2 * i + 1 ≤ m ∧ m < k)) ∧ NL l i m ∧ (∀ j, 2 * i + 1 ≤ j → j < k → NL l j m) ∧ 2 * i + 1 ≤ k ∧ k ≤ 2 * i + 3
theorem NL.self {l : List (Int × Int)} {i : Nat} : NL l i i := fun x y hx hy => by rw [hx] at hy; cases hy; rw [lessS_no]; omega
theorem LInv.no {l : List (Int × Int)} {i m k : Nat} (h : LInv l i m k) (hk : k ≤ 2 * i + 2) {x y : Int × Int} (hx : l[k]? = some x) (hy : l[m]? = some y) (hn : lessS x y = false) : LInv l i m (k + 1) := by
  obtain ⟨h1, h2, h3, h4, h5, h6⟩ := h
  refine ⟨h1, by omega, h3, fun j hj hjk => ?_, by omega, by omega⟩
  by_cases e : j = k
  · subst e; intro a b ha hb; rw [hx] at ha; rw [hy] at hb; cases ha; cases hb; exact hn
  · exact h4 j hj (by omega)
theorem LInv.yes {l : List (Int × Int)} {i m k : Nat} (h : LInv l i m k) (hk : k ≤ 2 * i + 2) {x y : Int × Int} (hx : l[k]? = some x) (hy : l[m]? = some y) (hn : lessS x y = true) : LInv l i k (k + 1) := by
  obtain ⟨h1, h2, h3, h4, h5, h6⟩ := h
  have key : ∀ j, NL l j m → NL l j k := fun j hj a b ha hb => by
    rw [hx] at hb
    cases hb
    have := hj a y ha hy
    rw [lessS_no] at *
    rw [lessS_iff] at hn
    omega
  refine ⟨fun _ => (List.getElem?_eq_some_iff.1 hx).1, by omega, key i h3, fun j hj hjk => ?_, by omega, by omega⟩
  by_cases e : j = k
  · subst e; exact NL.self
  · exact key j (h4 j hj (by omega))
theorem LInv.fin {l : List (Int × Int)} {i m k : Nat} (h : LInv l i m k) (hk : 2 * i + 2 < k ∨ l.length ≤ k) : LeastAt l i m := by
  obtain ⟨h1, h2, h3, h4, h5, h6⟩ := h
  have key : ∀ j, 2 * i + 1 ≤ j → j ≤ 2 * i + 2 → NL l j m := fun j a b => by
    by_cases e : j < k
    · exact h4 j a e
    · intro x y hx
      have := (List.getElem?_eq_some_iff.1 hx).1
      omega
  exact ⟨by omega, h3, key _ (by omega) (by omega), key _ (by omega) (by omega)⟩
/- heap.Heap).least -/
def heap_least_r5_T : Bool × List (List Nat × List Nat) := (true, [([], []), ([0], [0]), ([1], [1]), ([2], [2]), ([], []), ([3, 4], [3, 4]), ([5], [5]), ([], []), ([7], [7]), ([8], [8]), ([9], [9]), ([], []), ([10, 11], [10, 11]), ([12], [12]), ([6, 13], [6, 13])])
def heap_least_r5_B : List Nat := [0, 1, 3, 7, 0, 31, 63, 0, 128, 384, 896, 0, 3968, 8064, 16383]
theorem heap_least_r5_t : Go.Proofs.YtmcannmjielalaaW.PrintLast.rtab .any (Go.Proofs.YtmcannmjielalaaW.PrintLast.opsOf Try.f221 5) = heap_least_r5_T := by kernel_rfl
theorem heap_least_r5_b : Go.Proofs.YtmcannmjielalaaW.PrintLast.waitsOk heap_least_r5_T.2 heap_least_r5_B = true := by kernel_rfl
set_option maxRecDepth 100000 in
set_option maxHeartbeats 1000000 in
theorem heap_least (hb b c : Nat) (n : Nat) (l : List (Int × Int)) (i : Nat) (hn : n = l.length) (hi : i ≤ 10000001) (hll : l.length ≤ 10000001) : Triple Try.prog 221 [(.v (.pointer (some ⟨hb, 0, none⟩))), .int i] [.box hb [.v (slV (some b) n c)], .sl (some b) c 162 2 (l.map spC)] (fun r h' => ∃ k : Nat, r = .int k ∧ h' = [.box hb [.v (slV (some b) n c)], .sl (some b) c 162 2 (l.map spC)] ∧ LeastAt l i k ∧ (k ≠ i → i < k ∧ k < l.length)) := by
  refine triple_of Try.func221 rfl (by kernel_rfl) rfl (by simp) ?_
  refine aSeq ?_
  refine aReg ?_
  refine sp pMa ?_
  refine oNil ?_
  refine aSeq ?_
  refine aReg ?_
  refine sp pM ?_
  refine sp pMa ?_
  refine oNil ?_
  refine aSeq ?_
  refine aSeq ?_
  refine aReg ?_
  refine sp pM ?_
  refine sp pMu ?_
  refine sp pAd ?_
  refine sp pMa ?_
  refine oNil ?_
  refine aBlock ?_
  refine loopF (α := Nat × Nat) (kept := [(0, _), (1, _)]) (fun (m, k) => LInv l i m k) (fun (m, k) => [(5, .int m), (6, .int k)]) (fun (m, k) => []) (fun (m, k) => 2 * i + 3 - k) (i, 2 * i + 1) ?_ ⟨gInt rfl (by first | rfl | omega | simp), gInt rfl (by first | rfl | omega | simp), rfl, rfl, trivial⟩ (by repeat constructor) ?_
  · skip
    exact ⟨fun e => absurd rfl e, .inl rfl, NL.self, fun j a b => by omega, by omega, by omega⟩
  · rintro ⟨m, k⟩ hv
    refine aSeq ?_
    refine aSeq ?_
    have hk1 := hv.2.2.2.2.1
    have hk2 := hv.2.2.2.2.2
    refine aReg ?_
    refine sp pM ?_
    refine sp pM ?_
    refine sp pMu ?_
    refine sp pAd ?_
    refine sp pB ?_
    refine sp pM ?_
    refine oSplitDec 16 rfl (fun c16 => ?_) (fun c16 => ?_)
    · skip
      refine gp pM ?_
      refine gp pM ?_
      refine gp pNv ?_
      refine gp (pFb fd_263_0) ?_
      refine gr (rB1 ty_261) ?_
      refine gp (by first | exact pLm sl_261 | exact pLs sl_261 | exact pLv sl_261) ?_
      refine gp pB ?_
      refine sp pK ?_
      refine oNil ?_
      refine aCondDec rfl (fun c24 => ?_) (fun c24 => ?_)
      · skip
        refine aSkip ?_
        refine aSeq ?_
        refine aBlock ?_
        refine aSeq ?_
        have hmk : m < k := by have := hv.2.1; omega
        obtain ⟨x, hx⟩ : ∃ x, l[k]? = some x := ⟨_, List.getElem?_eq_getElem (by omega)⟩
        obtain ⟨y, hy⟩ : ∃ y, l[m]? = some y := ⟨_, List.getElem?_eq_getElem (by omega)⟩
        refine aDrawT heap_least_r5_t heap_least_r5_b [] 15 #[false, false, false, false, false, false, false, false, false, false, false, false, false, false, false] (by kernel_rfl) rfl rfl (fun HT => ?_)
        refine dp HT 0 rfl pM ?_
        refine dp HT 1 rfl pNv ?_
        refine dp HT 2 rfl (pFb fd_263_0) ?_
        refine dr HT 3 rfl (rB1 ty_261) ?_
        refine dp HT 4 rfl pM ?_
        first | refine dp HT 5 rfl (pIx es_261) ?_ | (refine obtDN 30 31 rfl rfl (by omega) (fun x32 hx32 => ?_); refine dp HT 5 rfl (pIs es_261 hx32) ?_) | (refine obtD 30 31 rfl rfl (by omega) (by omega) (fun x32 hx32 => ?_); refine dp HT 5 rfl (pIs es_261 hx32) ?_) | refine dp HT 5 rfl (pIo es_261) ?_
        refine dr HT 6 rfl (rOA ty_162 hx) ?_
        refine dp HT 7 rfl pM ?_
        refine dp HT 8 rfl pNv ?_
        refine dp HT 9 rfl (pFb fd_263_0) ?_
        refine dr HT 10 rfl (rB1 ty_261) ?_
        refine dp HT 11 rfl pM ?_
        first | refine dp HT 12 rfl (pIx es_261) ?_ | (refine obtDN 37 38 rfl rfl (by omega) (fun x39 hx39 => ?_); refine dp HT 12 rfl (pIs es_261 hx39) ?_) | (refine obtD 37 38 rfl rfl (by omega) (by omega) (fun x39 hx39 => ?_); refine dp HT 12 rfl (pIs es_261 hx39) ?_) | refine dp HT 12 rfl (pIo es_261) ?_
        refine dr HT 13 rfl (rOA ty_162 hy) ?_
        refine dGo ?_
        refine e1 HT 14 rfl ?_
        refine cv rfl rfl rfl (lents_refl _) cost_Less ?_
        refine eE HT ?_
        clear HT
        refine aCond rfl (fun c41 => ?_) (fun c41 => ?_)
        · skip
          refine aReg ?_
          refine sp pM ?_
          refine sp pMa ?_
          refine oNil ?_
          refine aReg ?_
          refine sp pM ?_
          refine sp pAd ?_
          refine sp pMa ?_
          refine oNil ?_
          refine ⟨(_, k + 1), ?_, by (try dsimp only); omega, ⟨gInt rfl (by first | rfl | omega | simp), gInt rfl (by first | rfl | omega | simp), rfl, rfl, trivial⟩, _, (by repeat constructor)⟩
          first
            | exact hv.no (by omega) hx hy (by assumption)
            | exact hv.yes (by omega) hx hy (by assumption)
        · skip
          refine aSkip ?_
          refine aReg ?_
          refine sp pM ?_
          refine sp pAd ?_
          refine sp pMa ?_
          refine oNil ?_
          refine ⟨(_, k + 1), ?_, by (try dsimp only); omega, ⟨gInt rfl (by first | rfl | omega | simp), gInt rfl (by first | rfl | omega | simp), rfl, rfl, trivial⟩, _, (by repeat constructor)⟩
          first
            | exact hv.no (by omega) hx hy (by assumption)
            | exact hv.yes (by omega) hx hy (by assumption)
      · skip
        refine aExit rfl ?_
        refine aSeq ?_
        refine aReg ?_
        refine sp pM ?_
        refine sp pMa ?_
        refine oNil ?_
        refine aRet ?_
        exact ⟨_, [_, _], _, rfl, (by repeat constructor), m, rfl, rfl, hv.fin (by omega), fun e => by have := hv.2.1; have := hv.1 e; omega⟩
    · skip
      refine gf ?_
      refine gf ?_
      refine gf ?_
      refine gf ?_
      refine gf ?_
      refine gf ?_
      refine gf ?_
      refine sp pK ?_
      refine oNil ?_
      refine aCondF rfl ?_
      refine aExit rfl ?_
      refine aSeq ?_
      refine aReg ?_
      refine sp pM ?_
      refine sp pMa ?_
      refine oNil ?_
      refine aRet ?_
      exact ⟨_, [_, _], _, rfl, (by repeat constructor), m, rfl, rfl, hv.fin (by omega), fun e => by have := hv.2.1; have := hv.1 e; omega⟩
end A
end Go.Proofs.Ytmcannmjielalaa
set_option linter.unusedVariables false
set_option linter.unusedSimpArgs false
namespace Go.Proofs.Ytmcannmjielalaa
namespace A
theorem st_162 : structPlaces Try.prog 162 = some [(0, 1), (1, 1)] := by kernel_rfl
theorem st_263 : structPlaces Try.prog 263 = some [(0, 1)] := by kernel_rfl
theorem ze_263 : zeroOf Try.prog 263 = some (.agg #[.slice none 0 0]) := by kernel_rfl
/- heap.Heap).Len -/
set_option maxRecDepth 100000 in
set_option maxHeartbeats 400000 in
theorem heap_Len (hb : Nat) (g : Option Nat) (c : Nat) (l : List (Int × Int)) : Triple Try.prog 267 [(.v (.pointer (some ⟨hb, 0, none⟩)))] [.box hb [.v (slV g l.length c)], .sl g c 162 2 (l.map spC)] (Is (.int l.length) [.box hb [.v (slV g l.length c)], .sl g c 162 2 (l.map spC)]) := by
  refine triple_of Try.func267 rfl (by kernel_rfl) rfl (by simp) ?_
  refine aSeq ?_
  refine aReg ?_
  refine sp pMa ?_
  refine oNil ?_
  refine aSeq ?_
  refine aSeq ?_
  refine aReg ?_
  refine sp pM ?_
  refine sp (by first | exact pPtrNil rfl (.inl rfl) rfl pt_159 rfl rfl | exact pSpNil rfl (.inl rfl) rfl pt_159 rfl) ?_
  refine oNil ?_
  refine aCondF rfl ?_
  refine aSkip ?_
  refine aSeq ?_
  refine aReg ?_
  refine sp pM ?_
  refine sp pNv ?_
  refine sp (pFb fd_263_0) ?_
  refine sr (rB1 ty_261) ?_
  refine sp (by first | exact pLm sl_261 | exact pLs sl_261 | exact pLv sl_261) ?_
  refine sp pMa ?_
  refine oNil ?_
  refine aRet ?_
  refine finIs rfl ?_
  rfl
/- heap.Heap).First -/
set_option maxRecDepth 100000 in
set_option maxHeartbeats 1000000 in
theorem heap_First (hb : Nat) (g : Option Nat) (c : Nat) (l : List (Int × Int)) : Triple Try.prog 220 [(.v (.pointer (some ⟨hb, 0, none⟩)))] [.box hb [.v (slV g l.length c)], .sl g c 162 2 (l.map spC)] (Is (.tup [.agg (spC (l.headD (0, 0))), .v (.bool (!l.isEmpty))]) [.box hb [.v (slV g l.length c)], .sl g c 162 2 (l.map spC)]) := by
  refine triple_ofR Try.func220 rfl (by kernel_rfl) rfl (by simp) ?_
  refine aSeq ?_
  refine aReg ?_
  refine sq ?_
  refine qAlloc rfl rfl (by decide) ze_162 rfl (fun b2 => ?_)
  refine sp pMa ?_
  refine oNil ?_
  refine aSeq ?_
  refine aSeq ?_
  refine aReg ?_
  refine sp pM ?_
  refine sa ?_
  refine cai rfl rfl rfl (heap_Len hb g c l) ?_
  refine sp pB ?_
  refine oNil ?_
  refine aCondEq rfl (fun c6 => ?_) (fun c6 => ?_)
  · skip
    refine aSeq ?_
    refine aReg ?_
    refine sp (pBuild rfl st_162 ze_162 rfl rfl rfl rfl) ?_
    refine sa ?_
    refine oStW rfl rfl rfl rfl (by repeat constructor) ty_162 ?_
    refine sp pMa ?_
    refine oNil ?_
    refine aRet ?_
    refine finRIs (l := [.agg (spC (0, 0)), .v (.bool false)]) (.cons (.cellA rfl (by repeat (first | exact List.mem_cons_self | apply List.mem_cons_of_mem)) ty_162) (.cons (.tmp rfl) .nil)) ?_
    have : l = [] := by
      have h0 : (l.length : Int) = 0 := by assumption
      exact List.eq_nil_of_length_eq_zero (by omega)
    subst this
    rfl
  · skip
    refine aSkip ?_
    refine aSeq ?_
    refine aSome (g := g) (by repeat constructor) (by intro e; simp at e; subst e; simp at c6) (fun b hbb => ?_)
    subst hbb
    obtain ⟨x, hx⟩ : ∃ x, l[(0 : Int).toNat]? = some x := ⟨_, List.getElem?_eq_getElem (by simp; omega)⟩
    have hl0 : l = x :: l.tail := by cases l <;> simp_all
    refine aReg ?_
    refine sp pM ?_
    refine sp pNv ?_
    refine sp (pFb fd_263_0) ?_
    refine sr (rB1 ty_261) ?_
    first | refine sp (pIx es_261) ?_ | refine sp (pIo es_261) ?_
    refine sr (rOA ty_162 hx) ?_
    refine sa ?_
    refine oStW rfl rfl rfl rfl (by repeat constructor) ty_162 ?_
    refine sp pMa ?_
    refine oNil ?_
    refine aRet ?_
    refine finRIs (l := [.agg (spC x), .v (.bool true)]) (.cons (.cellA rfl (by repeat (first | exact List.mem_cons_self | apply List.mem_cons_of_mem)) ty_162) (.cons (.tmp rfl) .nil)) ?_
    rw [hl0]
    rfl
/- heap.Heap).Take -/
def heap_Take_r5_T : Bool × List (List Nat × List Nat) := (true, [([], []), ([0], [0]), ([1], [1]), ([2], [2]), ([], []), ([4], [4]), ([5], [5]), ([6], [6]), ([], []), ([7, 8], [7, 8]), ([9], [9]), ([3, 0, 1, 2, 3, 4, 5, 6, 7, 8, 9, 10], [3]), ([11, 10, 0, 1, 2, 3, 4, 5, 6, 7, 8, 9, 10], [10, 11])])
def heap_Take_r5_B : List Nat := [0, 1, 3, 7, 0, 16, 48, 112, 0, 496, 1008, 2047, 4095]
theorem heap_Take_r5_t : Go.Proofs.YtmcannmjielalaaW.PrintLast.rtab .any (Go.Proofs.YtmcannmjielalaaW.PrintLast.opsOf Try.f126 5) = heap_Take_r5_T := by kernel_rfl
theorem heap_Take_r5_b : Go.Proofs.YtmcannmjielalaaW.PrintLast.waitsOk heap_Take_r5_T.2 heap_Take_r5_B = true := by kernel_rfl
def heap_Take_r11_T : Bool × List (List Nat × List Nat) := (true, [([], []), ([0], [0]), ([1], [1]), ([2], [2]), ([], []), ([], []), ([5], [5]), ([6], [6]), ([7], [7]), ([], []), ([], []), ([10], [10]), ([11], [11]), ([12], [12]), ([], []), ([13, 14], [13, 14]), ([15], [15]), ([], []), ([17], [17]), ([18], [18]), ([19], [19]), ([], []), ([20, 21], [20, 21]), ([22], [22]), ([3, 4, 0, 1, 2, 3, 4, 8, 10, 11, 12, 13, 14, 15, 16, 20, 23], [3, 4]), ([24, 16, 0, 1, 2, 3, 4, 8, 10, 11, 12, 13, 14, 15, 16, 20, 23], [16, 24]), ([8, 9, 0, 1, 2, 3, 4, 5, 6, 7, 8, 9, 10, 11, 12, 13, 14, 15, 16, 17, 18, 19, 20, 21, 22, 23, 24, 25], [8, 9]), ([26, 23, 25, 0, 1, 2, 3, 4, 5, 6, 7, 8, 9, 10, 11, 12, 13, 14, 15, 16, 17, 18, 19, 20, 21, 22, 23, 24, 25], [23, 26])])
def heap_Take_r11_B : List Nat := [0, 1, 3, 7, 0, 0, 32, 96, 224, 0, 0, 1024, 3072, 7168, 0, 31744, 64512, 0, 131072, 393216, 917504, 0, 4063232, 8257536, 16776703, 33553919, 67108863, 134217727]
theorem heap_Take_r11_t : Go.Proofs.YtmcannmjielalaaW.PrintLast.rtab .any (Go.Proofs.YtmcannmjielalaaW.PrintLast.opsOf Try.f126 11) = heap_Take_r11_T := by kernel_rfl
theorem heap_Take_r11_b : Go.Proofs.YtmcannmjielalaaW.PrintLast.waitsOk heap_Take_r11_T.2 heap_Take_r11_B = true := by kernel_rfl
set_option maxRecDepth 100000 in
set_option maxHeartbeats 2000000 in
theorem heap_Take (hb : Nat) (g : Option Nat) (c : Nat) (l : List (Int × Int)) (hk : HeapOk l) (hll : l.length ≤ 10000000) : Triple Try.prog 126 [(.v (.pointer (some ⟨hb, 0, none⟩)))] [.box hb [.v (slV g l.length c)], .sl g c 162 2 (l.map spC)] (fun r h' => ∃ x q l' g' c', r = .tup [.agg (spC x), .v (.bool q)] ∧ h' = [.box hb [.v (slV g' l'.length c')], .sl g' c' 162 2 (l'.map spC)] ∧ HeapOk l' ∧ (q = false → l = [] ∧ l' = []) ∧ (q = true → l.Perm (x :: l') ∧ ∀ e ∈ l, x.1 ≤ e.1)) := by
  refine triple_ofR Try.func126 rfl (by kernel_rfl) rfl (by simp) ?_
  refine aSeq ?_
  refine aReg ?_
  refine sq ?_
  refine qAlloc rfl rfl (by decide) ze_162 rfl (fun b2 => ?_)
  refine sp pMa ?_
  refine oNil ?_
  refine aSeq ?_
  refine aReg ?_
  refine sp pM ?_
  refine sa ?_
  refine cai rfl rfl rfl (heap_First hb g c l) ?_
  refine sp pM ?_
  refine sp pX ?_
  refine sp pX ?_
  refine sq ?_
  refine qAlloc rfl rfl (by decide) ze_162 rfl (fun b4 => ?_)
  refine sa ?_
  refine oStW rfl rfl rfl rfl (by repeat constructor) ty_162 ?_
  refine sp pMa ?_
  refine oNil ?_
  refine aSeq ?_
  refine aSeq ?_
  refine aReg ?_
  refine sp pM ?_
  refine sp pNo ?_
  refine oNil ?_
  refine aCondNot rfl (fun c15 => ?_) (fun c15 => ?_)
  · skip
    refine aSeq ?_
    refine aReg ?_
    refine sp (pBuild rfl st_162 ze_162 rfl rfl rfl rfl) ?_
    refine sa ?_
    refine oStW rfl rfl rfl rfl (by repeat constructor) ty_162 ?_
    refine sp pMa ?_
    refine oNil ?_
    refine aRet ?_
    refine ⟨[.agg (spC (0, 0)), .v (.bool false)], [.box hb [.v (slV g l.length c)], .sl g c 162 2 (l.map spC)], _, .cons (.cellA rfl (by repeat (first | exact List.mem_cons_self | apply List.mem_cons_of_mem)) ty_162) (.cons (.tmp rfl) .nil), (by repeat constructor), ?_⟩
    have hle : l = [] := by cases l <;> simp_all
    subst hle
    exact ⟨(0, 0), false, [], g, c, rfl, rfl, hk, fun _ => ⟨rfl, rfl⟩, fun h => by cases h⟩
  · skip
    refine aSkip ?_
    refine aSeq ?_
    have hne : l ≠ [] := by intro e; subst e; simp_all
    have hpos : 0 < l.length := List.length_pos_iff.2 hne
    refine aSome (g := g) (by repeat constructor) (by simpa using hne) (fun b hbb => ?_)
    subst hbb
    refine aCap (c := c) (by repeat constructor) (fun hcap => ?_)
    rw [List.length_map] at hcap
    obtain ⟨y0, hy0⟩ : ∃ y, l[((l.length - 1 : Nat) : Int).toNat]? = some y := ⟨_, List.getElem?_eq_getElem (by simp; omega)⟩
    have hy0' : l[l.length - 1]? = some y0 := hy0
    have hl0 : l[0]? = some (l.headD (0, 0)) := by cases l <;> simp_all
    refine aReg ?_
    refine sp pM ?_
    refine sp pNv ?_
    refine sp (pFb fd_263_0) ?_
    refine sr (rB1 ty_261) ?_
    refine sp (by first | exact pLm sl_261 | exact pLs sl_261 | exact pLv sl_261) ?_
    refine sp pSu ?_
    rw [show ((l.length : Int) - 1) = ((l.length - 1 : Nat) : Int) by omega]
    refine sp pMa ?_
    refine oNil ?_
    refine aSeq ?_
    refine aDrawT heap_Take_r5_t heap_Take_r5_b [12] 13 #[false, false, false, false, false, false, false, false, false, false, false, false, false] (by kernel_rfl) rfl rfl (fun HT => ?_)
    refine dp HT 0 rfl pM ?_
    refine dp HT 1 rfl pNv ?_
    refine dp HT 2 rfl (pFb fd_263_0) ?_
    refine dr HT 3 rfl (rB1 ty_261) ?_
    refine dp HT 4 rfl pM ?_
    refine dp HT 5 rfl pNv ?_
    refine dp HT 6 rfl (pFb fd_263_0) ?_
    refine dr HT 7 rfl (rB1 ty_261) ?_
    refine dp HT 8 rfl pM ?_
    first | refine dp HT 9 rfl (pIx es_261) ?_ | (refine obtDN 30 31 rfl rfl (by omega) (fun x32 hx32 => ?_); refine dp HT 9 rfl (pIs es_261 hx32) ?_) | (refine obtD 30 31 rfl rfl (by omega) (by omega) (fun x32 hx32 => ?_); refine dp HT 9 rfl (pIs es_261 hx32) ?_) | refine dp HT 9 rfl (pIo es_261) ?_
    refine dr HT 10 rfl (rOA ty_162 hy0) ?_
    first | refine dp HT 11 rfl (pIx es_261) ?_ | refine dp HT 11 rfl (pIo es_261) ?_
    refine dGo ?_
    refine eLast ?_
    refine f1 HT 12 rfl ?_
    refine oStE (fC := spC) (l := l) (a := y0) (i := (0 : Int)) (hi := by simp; omega) rfl rfl rfl rfl ty_162 ?_
    refine fE HT ?_
    clear HT
    refine aSeq ?_
    refine aReg ?_
    refine sp pM ?_
    refine sp pM ?_
    refine sp pNv ?_
    refine sp (pFb fd_263_0) ?_
    refine sr (rB1 ty_261) ?_
    refine sp pM ?_
    refine sp (pSlHi rfl rfl es_261 (bdI rfl) (by omega)) ?_
    refine sp pNv ?_
    refine sp (pFb fd_263_0) ?_
    refine sa ?_
    refine oStB rfl rfl rfl rfl (by repeat constructor) ty_261 rfl (Nat.le_of_ble_eq_true rfl) rfl ?_
    refine oNil ?_
    refine aSeq ?_
    refine aReg ?_
    refine sp pMa ?_
    refine oNil ?_
    refine aBlock ?_
    refine aWeak (weak_cut (l.length - 1) (by repeat constructor)) ?_
    rw [← List.map_take]
    refine loopF (α := Nat × List (Int × Int)) (kept := [(0, _), (2, _), (4, _)]) (fun (i, h) => DownOk h i ∧ h.Perm ((l.set 0 y0).take (l.length - 1)) ∧ i ≤ l.length) (fun (i, h) => [(7, .int i)]) (fun (i, h) => [.box hb [.v (slV (some b) (l.length - 1) c)], .sl (some b) c 162 2 (h.map spC)]) (fun (i, h) => l.length - i) (0, (l.set 0 y0).take (l.length - 1)) ?_ ⟨gInt rfl (by first | rfl | omega | simp), rfl, rfl, rfl, trivial⟩ (by repeat constructor) ?_
    · skip
      exact ⟨down_new hk, .refl _, by omega⟩
    · rintro ⟨i, h⟩ ⟨hd, hpm, hil⟩
      refine aBlock ?_
      refine aSeq ?_
      refine aReg ?_
      refine sp pM ?_
      refine sp pM ?_
      refine sa ?_
      refine ca rfl rfl rfl (heap_least hb b c (l.length - 1) h i (by rw [hpm.length_eq]; simp) (by omega) (by rw [hpm.length_eq]; simp; omega)) ?_
      rintro _ _ ⟨k, rfl, rfl, hL, hkl⟩
      refine sp pMa ?_
      refine oNil ?_
      refine aSeq ?_
      refine aSeq ?_
      refine aReg ?_
      refine sp pM ?_
      refine sp pM ?_
      refine sp pB ?_
      refine oNil ?_
      refine aCondEq rfl (fun c49 => ?_) (fun c49 => ?_)
      · skip
        refine aSeq ?_
        refine aReg ?_
        refine sr (by first | exact rBWa ty_162 | exact rBW ty_162 | exact rBA ty_162) ?_
        refine sa ?_
        refine oStW rfl rfl rfl rfl (by repeat constructor) ty_162 ?_
        refine sp pMa ?_
        refine oNil ?_
        refine aRet ?_
        refine ⟨[.agg (spC (l.headD (0, 0))), .v (.bool true)], [.box hb [.v (slV (some b) (l.length - 1) c)], .sl (some b) c 162 2 (h.map spC)], _, .cons (.cellA rfl (by repeat (first | exact List.mem_cons_self | apply List.mem_cons_of_mem)) ty_162) (.cons (.tmp rfl) .nil), (by repeat constructor), ?_⟩
        have hki : (k : Int) = i := by assumption
        obtain rfl : k = i := by omega
        refine ⟨l.headD (0, 0), true, h, some b, c, rfl, ?_, down_end hd hL, (fun h => by cases h), fun _ => ⟨?_, heap_first hk hl0⟩⟩
        · rw [show h.length = l.length - 1 by rw [hpm.length_eq]; simp]
        · exact (take_perm hl0 hy0').trans (hpm.symm.cons _)
      · skip
        refine aSkip ?_
        refine aSeq ?_
        have hkl2 := hkl (by omega)
        obtain ⟨x, hx⟩ : ∃ x, h[i]? = some x := ⟨_, List.getElem?_eq_getElem (by omega)⟩
        obtain ⟨y, hy⟩ : ∃ y, h[k]? = some y := ⟨_, List.getElem?_eq_getElem hkl2.2⟩
        have hhl : h.length = l.length - 1 := by rw [hpm.length_eq]; simp
        have hsw : swapH h i k = (h.set i y).set k x := by simp [swapH, List.getD, hx, hy]
        refine aDrawT heap_Take_r11_t heap_Take_r11_b [25, 27] 28 #[false, false, false, false, false, false, false, false, false, false, false, false, false, false, false, false, false, false, false, false, false, false, false, false, false, false, false, false] (by kernel_rfl) rfl rfl (fun HT => ?_)
        refine dp HT 0 rfl pM ?_
        refine dp HT 1 rfl pNv ?_
        refine dp HT 2 rfl (pFb fd_263_0) ?_
        refine dr HT 3 rfl (rB1 ty_261) ?_
        refine dp HT 4 rfl pM ?_
        refine dp HT 5 rfl pM ?_
        refine dp HT 6 rfl pNv ?_
        refine dp HT 7 rfl (pFb fd_263_0) ?_
        refine dr HT 8 rfl (rB1 ty_261) ?_
        refine dp HT 9 rfl pM ?_
        refine dp HT 10 rfl pM ?_
        refine dp HT 11 rfl pNv ?_
        refine dp HT 12 rfl (pFb fd_263_0) ?_
        refine dr HT 13 rfl (rB1 ty_261) ?_
        refine dp HT 14 rfl pM ?_
        first | refine dp HT 15 rfl (pIx es_261) ?_ | (refine obtDN 64 65 rfl rfl (by omega) (fun x66 hx66 => ?_); refine dp HT 15 rfl (pIs es_261 hx66) ?_) | (refine obtD 64 65 rfl rfl (by omega) (by omega) (fun x66 hx66 => ?_); refine dp HT 15 rfl (pIs es_261 hx66) ?_) | refine dp HT 15 rfl (pIo es_261) ?_
        refine dr HT 16 rfl (rOA ty_162 hy) ?_
        refine dp HT 17 rfl pM ?_
        refine dp HT 18 rfl pNv ?_
        refine dp HT 19 rfl (pFb fd_263_0) ?_
        refine dr HT 20 rfl (rB1 ty_261) ?_
        refine dp HT 21 rfl pM ?_
        first | refine dp HT 22 rfl (pIx es_261) ?_ | (refine obtDN 71 72 rfl rfl (by omega) (fun x73 hx73 => ?_); refine dp HT 22 rfl (pIs es_261 hx73) ?_) | (refine obtD 71 72 rfl rfl (by omega) (by omega) (fun x73 hx73 => ?_); refine dp HT 22 rfl (pIs es_261 hx73) ?_) | refine dp HT 22 rfl (pIo es_261) ?_
        refine dr HT 23 rfl (rOA ty_162 hx) ?_
        first | refine dp HT 24 rfl (pIx es_261) ?_ | (refine obtDN 54 55 rfl rfl (by omega) (fun x75 hx75 => ?_); refine dp HT 24 rfl (pIs es_261 hx75) ?_) | (refine obtD 54 55 rfl rfl (by omega) (by omega) (fun x75 hx75 => ?_); refine dp HT 24 rfl (pIs es_261 hx75) ?_) | refine dp HT 24 rfl (pIo es_261) ?_
        refine dGo ?_
        refine eLast ?_
        refine f1 HT 25 rfl ?_
        refine oStE (fC := spC) (l := h) (a := y) (i := (i : Int)) rfl rfl rfl rfl ty_162 ?_
        first | refine fp HT 26 rfl (pIx es_261) ?_ | (refine obtFN 59 60 rfl rfl (by omega) (fun x76 hx76 => ?_); refine fp HT 26 rfl (pIs es_261 hx76) ?_) | (refine obtF 59 60 rfl rfl (by omega) (by omega) (fun x76 hx76 => ?_); refine fp HT 26 rfl (pIs es_261 hx76) ?_) | refine fp HT 26 rfl (pIo es_261) ?_
        refine f1 HT 27 rfl ?_
        refine oStE (hi := by rw [List.length_set]; omega) (fC := spC) (a := x) (i := (k : Int)) rfl rfl rfl rfl ty_162 ?_
        simp only [Int.toNat_natCast]
        rw [← hsw]
        refine fE HT ?_
        clear HT
        refine aReg ?_
        refine sp pM ?_
        refine sp pMa ?_
        refine oNil ?_
        refine ⟨(k, swapH h i k), ?_, by (try dsimp only); omega, ⟨gInt rfl (by first | rfl | omega | simp), rfl, rfl, rfl, trivial⟩, _, (by repeat constructor)⟩
        exact ⟨down_swap (by omega) hkl2.2 hd hL (by omega), (swapH_perm (by omega) hkl2.2).trans hpm, by omega⟩
/- heap.New -/
set_option maxRecDepth 100000 in
set_option maxHeartbeats 1000000 in
theorem heap_New (xs : List (Int × Int)) (hx : xs.length ≤ 1000) : Triple Try.prog 125 [.sl 2 (xs.map spC)] [] (fun r h' => ∃ hb g c h, r = .v (.pointer (some ⟨hb, 0, none⟩)) ∧ h' = [.box hb [.v (slV g h.length c)], .sl g c 162 2 (h.map spC)] ∧ HeapOk h ∧ h.Perm xs) := by
  refine triple_of Try.func125 rfl (by kernel_rfl) rfl (by simp) ?_
  refine aSeq ?_
  refine aReg ?_
  refine sp pMa ?_
  refine oNil ?_
  refine aSeq ?_
  refine aReg ?_
  refine sp (pBuild rfl st_263 ze_263 rfl rfl rfl rfl) ?_
  refine sq ?_
  refine qBox rfl rfl (by decide) rfl rfl (fun b7 => ?_)
  refine sp pMa ?_
  refine oNil ?_
  refine aSeq ?_
  refine aSeq ?_
  refine aWeak (weak_nil 162 2) ?_
  refine aReg ?_
  refine sp pM ?_
  refine sp (by first | exact pLm sl_261 | exact pLs sl_261) ?_
  refine sp pM ?_
  refine oNil ?_
  refine aBlock ?_
  refine loopF (α := Nat × List (Int × Int) × Option Nat × Nat) (kept := [(3, _), (8, _), (9, _)]) (fun (i, h, g, c) => i ≤ xs.length ∧ HeapOk h ∧ h.Perm (xs.take i)) (fun (i, h, g, c) => [(10, .int i)]) (fun (i, h, g, c) => [.box b7 [.v (slV g h.length c)], .sl g c 162 2 (h.map spC)]) (fun (i, h, g, c) => xs.length - i) (0, [], none, 0) ?_ ⟨gInt rfl (by first | rfl | omega | simp), rfl, rfl, rfl, trivial⟩ (by repeat constructor) ?_
  · skip
    exact ⟨by omega, fun j hj x y hx => by simp at hx, .refl _⟩
  · rintro ⟨i, h, g, c⟩ ⟨hi, hk, hpm⟩
    refine aSeq ?_
    refine aReg ?_
    refine sp pB ?_
    refine oNil ?_
    refine aSeq ?_
    refine aCondDec rfl (fun c11 => ?_) (fun c11 => ?_)
    · skip
      refine aSkip ?_
      refine aSeq ?_
      refine aBlock ?_
      refine aSeq ?_
      obtain ⟨x, hxx⟩ : ∃ x, xs[i]? = some x := ⟨_, List.getElem?_eq_getElem (by omega)⟩
      refine aReg ?_
      first | refine sp (pIx es_261) ?_ | (refine obtSN 8 10 rfl rfl (by omega) (fun x12 hx12 => ?_); refine sp (pIs es_261 hx12) ?_) | (refine obtS 8 10 rfl rfl (by omega) (by omega) (fun x12 hx12 => ?_); refine sp (pIs es_261 hx12) ?_) | refine sp (pIo es_261) ?_
      refine sr (by first | exact rSW ty_162 rfl | exact rSA ty_162) ?_
      refine sq ?_
      refine qAlloc rfl rfl (by decide) ze_162 rfl (fun b5 => ?_)
      refine sa ?_
      refine oStW rfl rfl rfl rfl (by repeat constructor) ty_162 ?_
      refine oNil ?_
      refine aReg ?_
      refine sp pM ?_
      refine sr (by first | exact rBWa ty_162 | exact rBW ty_162 | exact rBA ty_162) ?_
      refine sa ?_
      refine ca rfl rfl rfl (heap_Put b7 g c h x hk (by have := hpm.length_eq; rw [List.length_take] at this; omega)) ?_
      rintro _ _ ⟨g', c', h', rfl, rfl, hk', hpm'⟩
      refine oNil ?_
      refine aReg ?_
      refine sp pAd ?_
      refine sp pM ?_
      refine oNil ?_
      refine ⟨(i + 1, h', g', c'), ?_, by (try dsimp only); omega, ⟨gInt rfl (by first | rfl | omega | simp), rfl, rfl, rfl, trivial⟩, _, (by repeat constructor)⟩
      exact ⟨by omega, hk', by rw [take_step hxx]; exact hpm'.trans (hpm.append_right _)⟩
    · skip
      refine aExit rfl ?_
      refine aSeq ?_
      refine aReg ?_
      refine sp pM ?_
      refine sp pMa ?_
      refine oNil ?_
      refine aRet ?_
      rw [take_all (by omega)] at hpm
      exact ⟨_, [_, _], _, rfl, (by repeat constructor), b7, g, c, h, rfl, rfl, hk, hpm⟩
end A
end Go.Proofs.Ytmcannmjielalaa
set_option linter.unusedVariables false
set_option linter.unusedSimpArgs false
namespace Go.Proofs.Ytmcannmjielalaa
namespace A
theorem ik_3 : intKindOf Try.prog 3 = some .i64 := by kernel_rfl
theorem ik_37 : intKindOf Try.prog 37 = some .u64 := by kernel_rfl
def rtC (r : Rt) : List AV := [.int r.nd, .int r.via, .v (.int .u64 r.c)]
abbrev rtA (r : Rt) : AV := .agg (rtC r)
end A
end Go.Proofs.Ytmcannmjielalaa
set_option linter.unusedVariables false
set_option linter.unusedSimpArgs false
namespace Go.Proofs.Ytmcannmjielalaa
namespace A
theorem fd_164_1 : fieldOf Try.prog 164 1 = some (1, 1, false) := by kernel_rfl
theorem fd_164_3 : fieldOf Try.prog 164 3 = some (3, 1, false) := by kernel_rfl
theorem fd_49_0 : fieldOf Try.prog 49 0 = some (0, 1, false) := by kernel_rfl
theorem fd_49_1 : fieldOf Try.prog 49 1 = some (1, 1, false) := by kernel_rfl
theorem fd_49_2 : fieldOf Try.prog 49 2 = some (2, 1, false) := by kernel_rfl
theorem mo_158 : mapOf Try.prog 158 = some (3, 49) := by kernel_rfl
theorem ty_159 : tyOf Try.prog 159 = some (1, false) := by kernel_rfl
theorem ty_49 : tyOf Try.prog 49 = some (3, true) := by kernel_rfl
theorem ze_49 : zeroOf Try.prog 49 = some (.agg #[.int .i64 0, .int .i64 0, .int .u64 0]) := by kernel_rfl
def rtV (r : Rt) : List Value := [.int .i64 r.nd, .int .i64 r.via, .int .u64 r.c]
theorem cast_rt : Cast (.v (.agg #[.int .i64 0, .int .i64 0, .int .u64 0])) (rtA ⟨0, 0, 0⟩) := cast_key (kf := rtV) (a := ⟨0, 0, 0⟩) rfl
def DF (dm : List (Int × Bool)) : Int → Bool := fun v => (mGet dm v).getD false
theorem DF_put {dm : List (Int × Bool)} {n : Int} {b : Bool} : DF (mPut dm n b) = updF (DF dm) n b := by
  funext v
  simp only [DF, mGet_put, updF]
  split <;> rfl
def kF (km : List (Int × Rt)) : Int → Option (Int × Int) := fun v => (mGet km v).map fun x => (x.via, x.c)
theorem kF_put {km : List (Int × Rt)} {x : Rt} : kF (mPut km x.nd x) = updF (kF km) x.nd (some (x.via, x.c)) := by
  funext v
  simp only [kF, mGet_put, updF]
  split <;> rfl
def KI (km : List (Int × Rt)) : Prop := (mKeys km).Nodup ∧ ∀ v x, mGet km v = some x → x.nd = v
theorem KI.put {km : List (Int × Rt)} {x : Rt} (h : KI km) : KI (mPut km x.nd x) := by
  refine ⟨mPut_nodup h.1, fun v y hy => ?_⟩
  rw [mGet_put] at hy
  split at hy
  · rename_i e; cases hy; exact e.symm
  · exact h.2 v y hy
def BetterR (km : List (Int × Rt)) (h : List (Int × Int)) (x : Rt) (km' : List (Int × Rt)) (h2 : List (Int × Int)) : Prop :=
  ((∀ w, mGet km x.nd = some w → x.c < w.c) ∧ km' = mPut km x.nd x ∧ h2.Perm (h ++ [(x.c, x.nd)])) ∨
  (∃ w, mGet km x.nd = some w ∧ x.c = w.c ∧ x.via < w.via ∧ km' = mPut km x.nd x ∧ h2 = h) ∨
  (∃ w, mGet km x.nd = some w ∧ (w.c < x.c ∨ w.c = x.c ∧ w.via ≤ x.via) ∧ km' = km ∧ h2 = h)
theorem better_step {l : List Arc} {r : Int} {km km' : List (Int × Rt)} {D : Int → Bool} {h h2 : List (Int × Int)} {pend pend' : Arc → Prop} {a : Arc} {x : Rt} (I : DInv l r (kF km) D h pend) (ha : a ∈ l) (hd : D a.f = true) (hpe : ∀ b, pend b → pend' b ∨ b = a) (hr : a.t ≠ r) (hnd : D a.t = false)
    (hx : x = ⟨a.t, hopV r (kF km) a, hopC r (kF km) a⟩) (K : KI km) (B : BetterR km h x km' h2) : DInv l r (kF km') D h2 pend' ∧ KI km' ∧ h2.length ≤ h.length + 1 ∧ ∀ v, v ≠ a.t → mGet km' v = mGet km v := by
  subst hx
  rcases B with ⟨h1, rfl, h3⟩ | ⟨w, h1, h2', h3, rfl, rfl⟩ | ⟨w, h1, h2', rfl, rfl⟩
  · refine ⟨?_, K.put, by have := h3.length_eq; simp at this; omega, fun v hv => by rw [mGet_put, if_neg hv]⟩
    rw [kF_put]
    refine I.put ha hd hpe hr hnd (fun p hp => ?_) (fun e he => h3.mem_iff.2 (by simp [he])) (h3.mem_iff.2 (by simp)) (fun e he => ?_)
    · simp only [kF, Option.map_eq_some_iff] at hp
      obtain ⟨w, hw, rfl⟩ := hp
      exact .inl (h1 w hw)
    · rcases List.mem_append.1 (h3.mem_iff.1 he) with h | h
      · exact .inl h
      · exact .inr (List.mem_singleton.1 h)
  · have hk : kF km a.t = some (w.via, w.c) := by simp only [kF, h1, Option.map_some]
    refine ⟨?_, K.put, by omega, fun v hv => by rw [mGet_put, if_neg hv]⟩
    rw [kF_put]
    refine I.put ha hd hpe hr hnd (fun p hp => ?_) (fun e he => he) ?_ (fun e he => .inl he)
    · rw [hk] at hp
      cases hp
      exact .inr ⟨h2', by simp only at h3 ⊢; omega⟩
    · have := I.h1 a.t _ hk hnd
      simp only at h2' this
      rw [h2']
      exact this
  · have hk : kF km' a.t = some (w.via, w.c) := by simp only [kF, h1, Option.map_some]
    refine ⟨I.keep hpe hk ?_, K, by omega, fun v _ => rfl⟩
    simp only at h2' ⊢
    unfold leV
    omega
/- spf.walk).better -/
def spf_better_r1_T : Bool × List (List Nat × List Nat) := (true, [([], []), ([0], [0]), ([1], [1]), ([2], [2]), ([], []), ([4], [4]), ([3, 5], [3, 5]), ([6], [6]), ([7], [7]), ([7], [7]), ([], []), ([10, 8, 0, 1, 2, 3, 4, 5, 6, 7, 8, 10], [8, 10]), ([9, 11, 0, 1, 2, 3, 4, 5, 6, 7, 8, 9, 10, 11], [9])])
def spf_better_r1_B : List Nat := [0, 1, 3, 7, 0, 16, 63, 127, 255, 255, 0, 1535, 4095]
theorem spf_better_r1_t : Go.Proofs.YtmcannmjielalaaW.PrintLast.rtab .any (Go.Proofs.YtmcannmjielalaaW.PrintLast.opsOf Try.f222 1) = spf_better_r1_T := by kernel_rfl
theorem spf_better_r1_b : Go.Proofs.YtmcannmjielalaaW.PrintLast.waitsOk spf_better_r1_T.2 spf_better_r1_B = true := by kernel_rfl
def spf_better_r3_T : Bool × List (List Nat × List Nat) := (true, [([], []), ([0], [0]), ([1], [1]), ([2], [2]), ([], []), ([4], [4]), ([], []), ([6], [6]), ([5, 7], [5, 7]), ([3, 8], [3, 8])])
def spf_better_r3_B : List Nat := [0, 1, 3, 7, 0, 16, 0, 64, 240, 511]
theorem spf_better_r3_t : Go.Proofs.YtmcannmjielalaaW.PrintLast.rtab .any (Go.Proofs.YtmcannmjielalaaW.PrintLast.opsOf Try.f222 3) = spf_better_r3_T := by kernel_rfl
theorem spf_better_r3_b : Go.Proofs.YtmcannmjielalaaW.PrintLast.waitsOk spf_better_r3_T.2 spf_better_r3_B = true := by kernel_rfl
def spf_better_r5_T : Bool × List (List Nat × List Nat) := (true, [([], []), ([0], [0]), ([1], [1]), ([2], [2]), ([], []), ([4], [4]), ([], []), ([3, 5, 6, 0, 1, 2, 3, 4, 5, 6], [3, 5, 6])])
def spf_better_r5_B : List Nat := [0, 1, 3, 7, 0, 16, 0, 127]
theorem spf_better_r5_t : Go.Proofs.YtmcannmjielalaaW.PrintLast.rtab .any (Go.Proofs.YtmcannmjielalaaW.PrintLast.opsOf Try.f222 5) = spf_better_r5_T := by kernel_rfl
theorem spf_better_r5_b : Go.Proofs.YtmcannmjielalaaW.PrintLast.waitsOk spf_better_r5_T.2 spf_better_r5_B = true := by kernel_rfl
set_option maxRecDepth 100000 in
set_option maxHeartbeats 2000000 in
theorem spf_better (wb kb db hb : Nat) (root : Int) (km : List (Int × Rt)) (dm : List (Int × Bool)) (g : Option Nat) (c : Nat) (h : List (Int × Int)) (x : Rt) (hk : HeapOk h) (hhl : h.length ≤ 1000000) : Triple Try.prog 222 [(.v (.pointer (some ⟨wb, 0, none⟩))), .agg (rtC x)] [.box wb [.int root, .v (.map (some kb)), .v (.map (some db)), .v (.pointer (some ⟨hb, 0, none⟩))], .map kb (kvM rtA (km)), .map db (kvM boA dm), .box hb [.v (slV g (h).length c)], .sl g c 162 2 ((h).map spC)] (fun r h' => ∃ km' g' c' h2, r = .tup [] ∧ h' = [.box wb [.int root, .v (.map (some kb)), .v (.map (some db)), .v (.pointer (some ⟨hb, 0, none⟩))], .map kb (kvM rtA (km')), .map db (kvM boA dm), .box hb [.v (slV g' (h2).length c')], .sl g' c' 162 2 ((h2).map spC)] ∧ HeapOk h2 ∧ BetterR km h x km' h2) := by
  refine triple_of Try.func222 rfl (by kernel_rfl) rfl (by simp) ?_
  refine aSeq ?_
  refine aReg ?_
  refine sq ?_
  refine qBox rfl rfl (by decide) rfl rfl (fun b3 => ?_)
  refine oNil ?_
  refine aSeq ?_
  refine aDrawT spf_better_r1_t spf_better_r1_b [11] 13 #[false, false, false, false, false, false, false, false, false, false, false, false, false] (by kernel_rfl) rfl rfl (fun HT => ?_)
  refine dp HT 0 rfl pM ?_
  refine dp HT 1 rfl pNv ?_
  refine dp HT 2 rfl (pFb fd_164_1) ?_
  refine dr HT 3 rfl (rB1 ty_158) ?_
  refine dp HT 4 rfl (pFb fd_49_0) ?_
  refine dr HT 5 rfl (rB1 ty_3) ?_
  refine dr HT 6 rfl (rMGo mo_158 ze_49 (⟨0, 0, 0⟩ : Rt) cast_rt) ?_
  refine dp HT 7 rfl pM ?_
  refine dp HT 8 rfl pX ?_
  refine dp HT 9 rfl pX ?_
  refine dGo ?_
  refine e1 HT 10 rfl ?_
  refine qAlloc rfl rfl (by decide) ze_49 rfl (fun b4 => ?_)
  refine eLast ?_
  refine f1 HT 11 rfl ?_
  refine oStW rfl rfl rfl rfl (by repeat constructor) ty_49 ?_
  refine fp HT 12 rfl pMa ?_
  refine fE HT ?_
  clear HT
  refine aSeq ?_
  refine aBlock ?_
  refine aSeq ?_
  refine aReg ?_
  refine sp pM ?_
  refine sp pNo ?_
  refine sp pM ?_
  refine oSplitNot 19 rfl (fun c19 => ?_) (fun c19 => ?_)
  · skip
    refine gf ?_
    refine gf ?_
    refine gf ?_
    refine gf ?_
    refine gf ?_
    refine sp pK ?_
    refine sp pMa ?_
    refine oNil ?_
    refine aCondT rfl ?_
    refine aDrawT spf_better_r3_t spf_better_r3_b [9] 10 #[false, false, false, false, false, false, false, false, false, false] (by kernel_rfl) rfl rfl (fun HT => ?_)
    refine dp HT 0 rfl pM ?_
    refine dp HT 1 rfl pNv ?_
    refine dp HT 2 rfl (pFb fd_164_3) ?_
    refine dr HT 3 rfl (rB1 ty_159) ?_
    refine dp HT 4 rfl (pFb fd_49_2) ?_
    refine dr HT 5 rfl (rB1 ty_37) ?_
    refine dp HT 6 rfl (pFb fd_49_0) ?_
    refine dr HT 7 rfl (rB1 ty_3) ?_
    refine dp HT 8 rfl (pBuild rfl st_162 ze_162 rfl rfl rfl rfl) ?_
    refine dGo ?_
    refine eLast ?_
    refine f1 HT 9 rfl ?_
    refine ca rfl rfl rfl (heap_Put hb g c h (x.c, x.nd) hk (by omega)) ?_
    rintro _ _ ⟨g', c', h2, rfl, rfl, hk2, hpm⟩
    refine fE HT ?_
    clear HT
    refine aDrawT spf_better_r5_t spf_better_r5_b [7] 8 #[false, false, false, false, false, false, false, false] (by kernel_rfl) rfl rfl (fun HT => ?_)
    refine dp HT 0 rfl pM ?_
    refine dp HT 1 rfl pNv ?_
    refine dp HT 2 rfl (pFb fd_164_1) ?_
    refine dr HT 3 rfl (rB1 ty_158) ?_
    refine dp HT 4 rfl (pFb fd_49_0) ?_
    refine dr HT 5 rfl (rB1 ty_3) ?_
    refine dr HT 6 rfl (by first | exact rBWa ty_49 | exact rBW ty_49 | exact rBA ty_49) ?_
    refine dGo ?_
    refine eLast ?_
    refine f1 HT 7 rfl ?_
    first | refine oMP rfl rfl rfl rfl mo_158 ?_ | refine oMapSet rfl rfl rfl rfl rfl (by repeat constructor) mo_158 ?_
    refine fE HT ?_
    clear HT
    first
      | (refine ⟨_, [.box wb [.int root, .v (.map (some kb)), .v (.map (some db)), .v (.pointer (some ⟨hb, 0, none⟩))], .map kb (kvM rtA (mPut km x.nd x)), .map db (kvM boA dm), .box hb [.v (slV g' (h2).length c')], .sl g' c' 162 2 ((h2).map spC)], _, rfl, (.cons (by repeat constructor) (.cons (by repeat constructor) (.cons (by repeat constructor) (.cons (by repeat constructor) (.cons (by repeat constructor) .nil))))), mPut km x.nd x, g', c', h2, rfl, rfl, hk2, .inl ⟨fun w hw => ?_, rfl, hpm⟩⟩; simp_all; done)
      | (refine ⟨_, [.box wb [.int root, .v (.map (some kb)), .v (.map (some db)), .v (.pointer (some ⟨hb, 0, none⟩))], .map kb (kvM rtA (mPut km x.nd x)), .map db (kvM boA dm), .box hb [.v (slV g (h).length c)], .sl g c 162 2 ((h).map spC)], _, rfl, (.cons (by repeat constructor) (.cons (by repeat constructor) (.cons (by repeat constructor) (.cons (by repeat constructor) (.cons (by repeat constructor) .nil))))), mPut km x.nd x, g, c, h, rfl, rfl, hk, .inr (.inl ⟨((mGet km x.nd).getD ⟨0, 0, 0⟩), ?_, by omega, by omega, rfl, rfl⟩)⟩; cases hm : mGet km x.nd with | none => simp_all | some w => rfl)
  · skip
    refine gp (pFb fd_49_2) ?_
    refine gr (rB1 ty_37) ?_
    refine gp (pFb fd_49_2) ?_
    refine gr (rB1 ty_37) ?_
    refine gp pB ?_
    refine sp pK ?_
    refine sp pMa ?_
    refine oNil ?_
    refine aCondDec rfl (fun c16 => ?_) (fun c16 => ?_)
    · skip
      refine aDrawT spf_better_r3_t spf_better_r3_b [9] 10 #[false, false, false, false, false, false, false, false, false, false] (by kernel_rfl) rfl rfl (fun HT => ?_)
      refine dp HT 0 rfl pM ?_
      refine dp HT 1 rfl pNv ?_
      refine dp HT 2 rfl (pFb fd_164_3) ?_
      refine dr HT 3 rfl (rB1 ty_159) ?_
      refine dp HT 4 rfl (pFb fd_49_2) ?_
      refine dr HT 5 rfl (rB1 ty_37) ?_
      refine dp HT 6 rfl (pFb fd_49_0) ?_
      refine dr HT 7 rfl (rB1 ty_3) ?_
      refine dp HT 8 rfl (pBuild rfl st_162 ze_162 rfl rfl rfl rfl) ?_
      refine dGo ?_
      refine eLast ?_
      refine f1 HT 9 rfl ?_
      refine ca rfl rfl rfl (heap_Put hb g c h (x.c, x.nd) hk (by omega)) ?_
      rintro _ _ ⟨g', c', h2, rfl, rfl, hk2, hpm⟩
      refine fE HT ?_
      clear HT
      refine aDrawT spf_better_r5_t spf_better_r5_b [7] 8 #[false, false, false, false, false, false, false, false] (by kernel_rfl) rfl rfl (fun HT => ?_)
      refine dp HT 0 rfl pM ?_
      refine dp HT 1 rfl pNv ?_
      refine dp HT 2 rfl (pFb fd_164_1) ?_
      refine dr HT 3 rfl (rB1 ty_158) ?_
      refine dp HT 4 rfl (pFb fd_49_0) ?_
      refine dr HT 5 rfl (rB1 ty_3) ?_
      refine dr HT 6 rfl (by first | exact rBWa ty_49 | exact rBW ty_49 | exact rBA ty_49) ?_
      refine dGo ?_
      refine eLast ?_
      refine f1 HT 7 rfl ?_
      first | refine oMP rfl rfl rfl rfl mo_158 ?_ | refine oMapSet rfl rfl rfl rfl rfl (by repeat constructor) mo_158 ?_
      refine fE HT ?_
      clear HT
      first
        | (refine ⟨_, [.box wb [.int root, .v (.map (some kb)), .v (.map (some db)), .v (.pointer (some ⟨hb, 0, none⟩))], .map kb (kvM rtA (mPut km x.nd x)), .map db (kvM boA dm), .box hb [.v (slV g' (h2).length c')], .sl g' c' 162 2 ((h2).map spC)], _, rfl, (.cons (by repeat constructor) (.cons (by repeat constructor) (.cons (by repeat constructor) (.cons (by repeat constructor) (.cons (by repeat constructor) .nil))))), mPut km x.nd x, g', c', h2, rfl, rfl, hk2, .inl ⟨fun w hw => ?_, rfl, hpm⟩⟩; simp_all; done)
        | (refine ⟨_, [.box wb [.int root, .v (.map (some kb)), .v (.map (some db)), .v (.pointer (some ⟨hb, 0, none⟩))], .map kb (kvM rtA (mPut km x.nd x)), .map db (kvM boA dm), .box hb [.v (slV g (h).length c)], .sl g c 162 2 ((h).map spC)], _, rfl, (.cons (by repeat constructor) (.cons (by repeat constructor) (.cons (by repeat constructor) (.cons (by repeat constructor) (.cons (by repeat constructor) .nil))))), mPut km x.nd x, g, c, h, rfl, rfl, hk, .inr (.inl ⟨((mGet km x.nd).getD ⟨0, 0, 0⟩), ?_, by omega, by omega, rfl, rfl⟩)⟩; cases hm : mGet km x.nd with | none => simp_all | some w => rfl)
    · skip
      refine aSeq ?_
      refine aReg ?_
      refine sp (pFb fd_49_2) ?_
      refine sr (rB1 ty_37) ?_
      refine sp (pFb fd_49_2) ?_
      refine sr (rB1 ty_37) ?_
      refine sp pB ?_
      refine sp pM ?_
      refine oSplitDec 42 rfl (fun c42 => ?_) (fun c42 => ?_)
      · skip
        refine gf ?_
        refine gf ?_
        refine gf ?_
        refine gf ?_
        refine gf ?_
        refine sp pK ?_
        refine sp pMa ?_
        refine oNil ?_
        refine aCondT rfl ?_
        refine aRet ?_
        have hw : mGet km x.nd = some ((mGet km x.nd).getD ⟨0, 0, 0⟩) := by
          cases hm : mGet km x.nd with
          | none => simp_all
          | some w => rfl
        exact ⟨_, [.box wb [.int root, .v (.map (some kb)), .v (.map (some db)), .v (.pointer (some ⟨hb, 0, none⟩))], .map kb (kvM rtA (km)), .map db (kvM boA dm), .box hb [.v (slV g (h).length c)], .sl g c 162 2 ((h).map spC)], _, rfl, (.cons (by repeat constructor) (.cons (by repeat constructor) (.cons (by repeat constructor) (.cons (by repeat constructor) (.cons (by repeat constructor) .nil))))), km, g, c, h, rfl, rfl, hk, .inr (.inr ⟨_, hw, by omega, rfl, rfl⟩)⟩
      · skip
        refine gp (pFb fd_49_1) ?_
        refine gr (rB1 ty_3) ?_
        refine gp (pFb fd_49_1) ?_
        refine gr (rB1 ty_3) ?_
        refine gp pB ?_
        refine sp pK ?_
        refine sp pMa ?_
        refine oNil ?_
        refine aCondDec rfl (fun c36 => ?_) (fun c36 => ?_)
        · skip
          refine aRet ?_
          have hw : mGet km x.nd = some ((mGet km x.nd).getD ⟨0, 0, 0⟩) := by
            cases hm : mGet km x.nd with
            | none => simp_all
            | some w => rfl
          exact ⟨_, [.box wb [.int root, .v (.map (some kb)), .v (.map (some db)), .v (.pointer (some ⟨hb, 0, none⟩))], .map kb (kvM rtA (km)), .map db (kvM boA dm), .box hb [.v (slV g (h).length c)], .sl g c 162 2 ((h).map spC)], _, rfl, (.cons (by repeat constructor) (.cons (by repeat constructor) (.cons (by repeat constructor) (.cons (by repeat constructor) (.cons (by repeat constructor) .nil))))), km, g, c, h, rfl, rfl, hk, .inr (.inr ⟨_, hw, by omega, rfl, rfl⟩)⟩
        · skip
          refine aSkip ?_
          refine aDrawT spf_better_r5_t spf_better_r5_b [7] 8 #[false, false, false, false, false, false, false, false] (by kernel_rfl) rfl rfl (fun HT => ?_)
          refine dp HT 0 rfl pM ?_
          refine dp HT 1 rfl pNv ?_
          refine dp HT 2 rfl (pFb fd_164_1) ?_
          refine dr HT 3 rfl (rB1 ty_158) ?_
          refine dp HT 4 rfl (pFb fd_49_0) ?_
          refine dr HT 5 rfl (rB1 ty_3) ?_
          refine dr HT 6 rfl (by first | exact rBWa ty_49 | exact rBW ty_49 | exact rBA ty_49) ?_
          refine dGo ?_
          refine eLast ?_
          refine f1 HT 7 rfl ?_
          first | refine oMP rfl rfl rfl rfl mo_158 ?_ | refine oMapSet rfl rfl rfl rfl rfl (by repeat constructor) mo_158 ?_
          refine fE HT ?_
          clear HT
          first
            | (refine ⟨_, [.box wb [.int root, .v (.map (some kb)), .v (.map (some db)), .v (.pointer (some ⟨hb, 0, none⟩))], .map kb (kvM rtA (mPut km x.nd x)), .map db (kvM boA dm), .box hb [.v (slV g' (h2).length c')], .sl g' c' 162 2 ((h2).map spC)], _, rfl, (.cons (by repeat constructor) (.cons (by repeat constructor) (.cons (by repeat constructor) (.cons (by repeat constructor) (.cons (by repeat constructor) .nil))))), mPut km x.nd x, g', c', h2, rfl, rfl, hk2, .inl ⟨fun w hw => ?_, rfl, hpm⟩⟩; simp_all; done)
            | (refine ⟨_, [.box wb [.int root, .v (.map (some kb)), .v (.map (some db)), .v (.pointer (some ⟨hb, 0, none⟩))], .map kb (kvM rtA (mPut km x.nd x)), .map db (kvM boA dm), .box hb [.v (slV g (h).length c)], .sl g c 162 2 ((h).map spC)], _, rfl, (.cons (by repeat constructor) (.cons (by repeat constructor) (.cons (by repeat constructor) (.cons (by repeat constructor) (.cons (by repeat constructor) .nil))))), mPut km x.nd x, g, c, h, rfl, rfl, hk, .inr (.inl ⟨((mGet km x.nd).getD ⟨0, 0, 0⟩), ?_, by omega, by omega, rfl, rfl⟩)⟩; cases hm : mGet km x.nd with | none => simp_all | some w => rfl)
end A
end Go.Proofs.Ytmcannmjielalaa
set_option linter.unusedVariables false
set_option linter.unusedSimpArgs false
namespace Go.Proofs.Ytmcannmjielalaa
namespace A
theorem fd_164_0 : fieldOf Try.prog 164 0 = some (0, 1, false) := by kernel_rfl
theorem fd_164_2 : fieldOf Try.prog 164 2 = some (2, 1, false) := by kernel_rfl
theorem st_49 : structPlaces Try.prog 49 = some [(0, 1), (1, 1), (2, 1)] := by kernel_rfl
theorem ze_4 : zeroOf Try.prog 4 = some (.bool false) := by kernel_rfl
theorem DInv.pend {l : List Arc} {r : Int} {known : Int → Option (Int × Int)} {done : Int → Bool} {hp : List (Int × Int)} {pend pend' : Arc → Prop} (I : DInv l r known done hp pend) (h : ∀ a ∈ l, pend a → pend' a) : DInv l r known done hp pend' :=
  ⟨I.k1, I.d1, fun a ha hd ht hp => I.d2 a ha hd ht (fun hpa => hp (h a ha hpa)), I.h1, I.hr, I.h2⟩
theorem at_hop {l : List Arc} {r n : Int} {km km0 : List (Int × Rt)} {D : Int → Bool} {h : List (Int × Int)} {pend : Arc → Prop} {a : Arc} (I : DInv l r (kF km) D h pend) (hm : mGet km n = mGet km0 n) (hf : a.f = n) :
    hopC r (kF km) a = ((mGet km0 n).getD ⟨0, 0, 0⟩).c + a.c ∧ hopV r (kF km) a = if n = r then a.t else ((mGet km0 n).getD ⟨0, 0, 0⟩).via := by
  unfold hopC hopV
  rw [hf, ← hm]
  by_cases e : n = r
  · rw [if_pos e, if_pos e, if_pos e]
    refine ⟨?_, rfl⟩
    have hno : mGet km n = none := by
      cases hg : mGet km n with
      | none => rfl
      | some x =>
        have := (I.k1 n (x.via, x.c) (by simp only [kF, hg, Option.map_some])).1
        exact absurd e this
    rw [hno]
    show a.c = 0 + a.c
    omega
  · rw [if_neg e, if_neg e, if_neg e]
    unfold kF
    cases mGet km n <;> exact ⟨rfl, rfl⟩
theorem drop_pend {α : Type} {xs : List α} {i : Nat} {a : α} (h : xs[i]? = some a) : ∀ b, b ∈ xs.drop i → b ∈ xs.drop (i + 1) ∨ b = a := fun b hb => by
  rw [drop_step h] at hb
  rcases List.mem_cons.1 hb with e | e
  · exact .inr e
  · exact .inl e
/- spf.walk).spread -/
def spf_spread_r4_T : Bool × List (List Nat × List Nat) := (true, [([], []), ([0], [0]), ([], []), ([2], [2]), ([3], [3]), ([4], [4]), ([1, 5], [1, 5]), ([6], [6]), ([7], [7]), ([8, 7], [7, 8]), ([9, 7], [7, 9]), ([10, 7], [7, 10]), ([7], [7]), ([12, 7], [7, 12]), ([11, 13, 7], [7, 11, 13]), ([7, 14], [7, 14])])
def spf_spread_r4_B : List Nat := [0, 1, 0, 4, 12, 28, 63, 127, 255, 511, 1023, 2047, 255, 4351, 16383, 32767]
theorem spf_spread_r4_t : Go.Proofs.YtmcannmjielalaaW.PrintLast.rtab .any (Go.Proofs.YtmcannmjielalaaW.PrintLast.opsOf Try.f127 4) = spf_spread_r4_T := by kernel_rfl
theorem spf_spread_r4_b : Go.Proofs.YtmcannmjielalaaW.PrintLast.waitsOk spf_spread_r4_T.2 spf_spread_r4_B = true := by kernel_rfl
def spf_spread_r8_T : Bool × List (List Nat × List Nat) := (true, [([], []), ([], []), ([1], [1]), ([], []), ([], []), ([4], [4]), ([], []), ([6], [6]), ([7], [7]), ([5, 8], [5, 8]), ([2, 3, 9], [2, 3, 9]), ([0, 10, 9], [0, 10])])
def spf_spread_r8_B : List Nat := [0, 0, 2, 0, 0, 16, 0, 64, 192, 496, 1022, 2047]
theorem spf_spread_r8_t : Go.Proofs.YtmcannmjielalaaW.PrintLast.rtab .any (Go.Proofs.YtmcannmjielalaaW.PrintLast.opsOf Try.f127 8) = spf_spread_r8_T := by kernel_rfl
theorem spf_spread_r8_b : Go.Proofs.YtmcannmjielalaaW.PrintLast.waitsOk spf_spread_r8_T.2 spf_spread_r8_B = true := by kernel_rfl
set_option maxRecDepth 100000 in
set_option maxHeartbeats 4000000 in
theorem spf_spread {l : List Arc} {r : Int} (hlA : ∀ a ∈ l, AOk a) (hsA : l.Pairwise ltA) (hll : l.length ≤ 1000000) (wb kb db hb : Nat) (km0 : List (Int × Rt)) (dm : List (Int × Bool)) (g0 : Option Nat) (c0 : Nat) (h0 : List (Int × Int)) (n : Int) (xs : List Arc) (hxs : xs = l.filter fun a => a.f == n) (hk0 : HeapOk h0) (hhl : h0.length + xs.length ≤ 1000000) (I0 : DInv l r (kF km0) (DF dm) h0 (fun a => a.f = n)) (hn : DF dm n = true) (K0 : KI km0) : Triple Try.prog 127 [(.v (.pointer (some ⟨wb, 0, none⟩))), .sl 3 (xs.map arcC), .int n] [.box wb [.int r, .v (.map (some kb)), .v (.map (some db)), .v (.pointer (some ⟨hb, 0, none⟩))], .map kb (kvM rtA (km0)), .map db (kvM boA dm), .box hb [.v (slV g0 (h0).length c0)], .sl g0 c0 162 2 ((h0).map spC)] (fun q h' => ∃ km g c h, q = .tup [] ∧ h' = [.box wb [.int r, .v (.map (some kb)), .v (.map (some db)), .v (.pointer (some ⟨hb, 0, none⟩))], .map kb (kvM rtA (km)), .map db (kvM boA dm), .box hb [.v (slV g (h).length c)], .sl g c 162 2 ((h).map spC)] ∧ HeapOk h ∧ DInv l r (kF km) (DF dm) h (fun _ => False) ∧ KI km ∧ h.length ≤ h0.length + xs.length) := by
  refine triple_of Try.func127 rfl (by kernel_rfl) rfl (by simp) ?_
  refine aSeq ?_
  refine aReg ?_
  refine sp pM ?_
  refine sp pNv ?_
  refine sp (pFb fd_164_1) ?_
  refine sr (rB1 ty_158) ?_
  refine sp pM ?_
  refine sr (rMG mo_158 ze_49 (⟨0, 0, 0⟩ : Rt) cast_rt) ?_
  refine sq ?_
  refine qAlloc rfl rfl (by decide) ze_49 rfl (fun b6 => ?_)
  refine sa ?_
  refine oStW rfl rfl rfl rfl (by repeat constructor) ty_49 ?_
  refine oNil ?_
  refine aSeq ?_
  refine aReg ?_
  refine sp pM ?_
  refine sp (by first | exact pLm sl_22 | exact pLs sl_22) ?_
  refine sp pM ?_
  refine oNil ?_
  refine aBlock ?_
  refine loopF (α := Nat × List (Int × Rt) × Option Nat × Nat × List (Int × Int)) (kept := [(0, _), (2, _), (6, _), (16, _), (17, _)]) (fun (i, km, g, c, h) => i ≤ xs.length ∧ HeapOk h ∧ DInv l r (kF km) (DF dm) h (fun b => b ∈ xs.drop i) ∧ KI km ∧ h.length ≤ h0.length + i ∧ mGet km n = mGet km0 n) (fun (i, km, g, c, h) => [(18, .int i)]) (fun (i, km, g, c, h) => [.box wb [.int r, .v (.map (some kb)), .v (.map (some db)), .v (.pointer (some ⟨hb, 0, none⟩))], .map kb (kvM rtA (km)), .map db (kvM boA dm), .box hb [.v (slV g (h).length c)], .sl g c 162 2 ((h).map spC)]) (fun (i, km, g, c, h) => xs.length - i) (0, km0, g0, c0, h0) ?_ ⟨gInt rfl (by first | rfl | omega | simp), rfl, rfl, rfl, rfl, rfl, trivial⟩ (by repeat constructor) ?_
  · skip
    exact ⟨by omega, hk0, I0.pend (fun a ha e => by rw [List.drop_zero, hxs, List.mem_filter]; exact ⟨ha, by simpa using e⟩), K0, by omega, rfl⟩
  · rintro ⟨i, km, g, c, h⟩ ⟨hi, hk, I, K, hlen, hm⟩
    refine aSeq ?_
    refine aReg ?_
    refine sp pB ?_
    refine oNil ?_
    refine aSeq ?_
    refine aCondDec rfl (fun c19 => ?_) (fun c19 => ?_)
    · skip
      refine aSkip ?_
      refine aSeq ?_
      refine aBlock ?_
      refine aSeq ?_
      obtain ⟨a, ha⟩ : ∃ a, xs[i]? = some a := ⟨_, List.getElem?_eq_getElem (by omega)⟩
      have hal : a ∈ l ∧ a.f = n := by
        have := List.mem_of_getElem? ha
        rw [hxs, List.mem_filter] at this
        exact ⟨this.1, by simpa using this.2⟩
      have hak := hlA a hal.1
      unfold AOk at hak
      have hop := at_hop (a := a) I hm hal.2
      have hopI := I.hop hlA hal.1 (by rw [hal.2]; exact hn)
      have hdr := dF_range hlA hll r a.f
      have hpe := drop_pend ha
      refine aReg ?_
      first | refine sp (pIx es_22) ?_ | (refine obtSN 16 18 rfl rfl (by omega) (fun x20 hx20 => ?_); refine sp (pIs es_22 hx20) ?_) | (refine obtS 16 18 rfl rfl (by omega) (by omega) (fun x20 hx20 => ?_); refine sp (pIs es_22 hx20) ?_) | refine sp (pIo es_22) ?_
      refine sr (by first | exact rSW ty_36 rfl | exact rSA ty_36) ?_
      refine sq ?_
      refine qAlloc rfl rfl (by decide) ze_36 rfl (fun b8 => ?_)
      refine sa ?_
      refine oStW rfl rfl rfl rfl (by repeat constructor) ty_36 ?_
      refine oNil ?_
      refine aSeq ?_
      refine aSeq ?_
      refine aDrawT spf_spread_r4_t spf_spread_r4_b [] 16 #[false, false, false, false, false, false, false, false, false, false, false, false, false, false, false, false] (by kernel_rfl) rfl rfl (fun HT => ?_)
      refine dp HT 0 rfl (pFb fd_36_1) ?_
      refine dr HT 1 rfl (rB1 ty_3) ?_
      refine dp HT 2 rfl pM ?_
      refine dp HT 3 rfl pNv ?_
      refine dp HT 4 rfl (pFb fd_164_0) ?_
      refine dr HT 5 rfl (rB1 ty_3) ?_
      refine dp HT 6 rfl pB ?_
      refine dp HT 7 rfl pM ?_
      refine dSplitEq 29 rfl (fun c29 => ?_) (fun c29 => ?_)
      · skip
        refine dS HT 8 rfl ?_
        refine dS HT 9 rfl ?_
        refine dS HT 10 rfl ?_
        refine dS HT 11 rfl ?_
        refine dS HT 12 rfl ?_
        refine dS HT 13 rfl ?_
        refine dS HT 14 rfl ?_
        refine dp HT 15 rfl pK ?_
        refine dE HT ?_
        clear HT
        refine aCondT rfl ?_
        refine aExit rfl ?_
        refine aReg ?_
        refine sp pAd ?_
        refine sp pM ?_
        refine oNil ?_
        refine ⟨(i + 1, _, _, _, _), ?_, by (try dsimp only); omega, ⟨gInt rfl (by first | rfl | omega | simp), rfl, rfl, rfl, rfl, rfl, trivial⟩, _, (by repeat constructor)⟩
        first
          | exact ⟨by omega, hk, I.skip hlA hsA hpe (.inl (by assumption)), K, by omega, hm⟩
          | exact ⟨by omega, hk, I.skip hlA hsA hpe (.inr (by assumption)), K, by omega, hm⟩
          | (have hnd : DF dm a.t = false := by assumption
             obtain ⟨q1, q2, q3, q4⟩ := better_step I hal.1 (by rw [hal.2]; exact hn) hpe (by assumption) hnd (by rw [hop.1, hop.2]; first | rw [if_pos (by assumption)] | rw [if_neg (by assumption)]) K hB
             exact ⟨by omega, hk2, q1, q2, by omega, by rw [q4 n (fun e => by rw [e, hnd] at hn; cases hn)]; exact hm⟩)
      · skip
        refine dpG HT 8 rfl pM ?_
        refine dpG HT 9 rfl pNv ?_
        refine dpG HT 10 rfl (pFb fd_164_2) ?_
        refine drG HT 11 rfl (rB1 ty_144) ?_
        refine dpG HT 12 rfl (pFb fd_36_1) ?_
        refine drG HT 13 rfl (rB1 ty_3) ?_
        refine drG HT 14 rfl (rMGb mo_144 ze_4) ?_
        refine dp HT 15 rfl pK ?_
        refine dE HT ?_
        clear HT
        refine aCond rfl (fun c37 => ?_) (fun c37 => ?_)
        · skip
          refine aExit rfl ?_
          refine aReg ?_
          refine sp pAd ?_
          refine sp pM ?_
          refine oNil ?_
          refine ⟨(i + 1, _, _, _, _), ?_, by (try dsimp only); omega, ⟨gInt rfl (by first | rfl | omega | simp), rfl, rfl, rfl, rfl, rfl, trivial⟩, _, (by repeat constructor)⟩
          first
            | exact ⟨by omega, hk, I.skip hlA hsA hpe (.inl (by assumption)), K, by omega, hm⟩
            | exact ⟨by omega, hk, I.skip hlA hsA hpe (.inr (by assumption)), K, by omega, hm⟩
            | (have hnd : DF dm a.t = false := by assumption
               obtain ⟨q1, q2, q3, q4⟩ := better_step I hal.1 (by rw [hal.2]; exact hn) hpe (by assumption) hnd (by rw [hop.1, hop.2]; first | rw [if_pos (by assumption)] | rw [if_neg (by assumption)]) K hB
               exact ⟨by omega, hk2, q1, q2, by omega, by rw [q4 n (fun e => by rw [e, hnd] at hn; cases hn)]; exact hm⟩)
        · skip
          refine aSkip ?_
          refine aSeq ?_
          refine aReg ?_
          refine sp (pFb fd_49_1) ?_
          refine sr (rB1 ty_3) ?_
          refine sp pMa ?_
          refine oNil ?_
          refine aSeq ?_
          refine aSeq ?_
          refine aReg ?_
          refine sp pM ?_
          refine sp pM ?_
          refine sp pNv ?_
          refine sp (pFb fd_164_0) ?_
          refine sr (rB1 ty_3) ?_
          refine sp pB ?_
          refine oNil ?_
          refine aCondEq rfl (fun c45 => ?_) (fun c45 => ?_)
          · skip
            refine aReg ?_
            refine sp (pFb fd_36_1) ?_
            refine sr (rB1 ty_3) ?_
            refine sp pMa ?_
            refine oNil ?_
            refine aDrawT spf_spread_r8_t spf_spread_r8_b [11] 12 #[false, false, false, false, false, false, false, false, false, false, false, false] (by kernel_rfl) rfl rfl (fun HT => ?_)
            refine dp HT 0 rfl pM ?_
            refine dp HT 1 rfl (pFb fd_36_1) ?_
            refine dr HT 2 rfl (rB1 ty_3) ?_
            refine dp HT 3 rfl pM ?_
            refine dp HT 4 rfl (pFb fd_49_2) ?_
            refine dr HT 5 rfl (rB1 ty_37) ?_
            refine dp HT 6 rfl (pFb fd_36_2) ?_
            refine dr HT 7 rfl (rB1 ty_3) ?_
            refine dp HT 8 rfl (by first | exact pCvK ik_3 ik_37 | exact pConv rfl rfl ik_3 ik_37 rfl) ?_
            refine dGo ?_
            refine e1 HT 9 rfl ?_
            refine cv rfl rfl rfl (lents_refl _) (cost_Add (by omega) (by omega) (by omega) (by omega)) ?_
            rw [if_neg (by omega)]
            refine ef HT 10 rfl (pBuild rfl st_49 ze_49 rfl rfl rfl rfl) ?_
            refine eLast ?_
            refine f1 HT 11 rfl ?_
            refine ca rfl rfl rfl (spf_better wb kb db hb r km dm g c h ⟨a.t, _, ((mGet km0 n).getD ⟨0, 0, 0⟩).c + a.c⟩ hk (by omega)) ?_
            rintro _ _ ⟨km', g', c', h2, rfl, rfl, hk2, hB⟩
            refine fE HT ?_
            clear HT
            refine aReg ?_
            refine sp pAd ?_
            refine sp pM ?_
            refine oNil ?_
            refine ⟨(i + 1, _, _, _, _), ?_, by (try dsimp only); omega, ⟨gInt rfl (by first | rfl | omega | simp), rfl, rfl, rfl, rfl, rfl, trivial⟩, _, (by repeat constructor)⟩
            first
              | exact ⟨by omega, hk, I.skip hlA hsA hpe (.inl (by assumption)), K, by omega, hm⟩
              | exact ⟨by omega, hk, I.skip hlA hsA hpe (.inr (by assumption)), K, by omega, hm⟩
              | (have hnd : DF dm a.t = false := by assumption
                 obtain ⟨q1, q2, q3, q4⟩ := better_step I hal.1 (by rw [hal.2]; exact hn) hpe (by assumption) hnd (by rw [hop.1, hop.2]; first | rw [if_pos (by assumption)] | rw [if_neg (by assumption)]) K hB
                 exact ⟨by omega, hk2, q1, q2, by omega, by rw [q4 n (fun e => by rw [e, hnd] at hn; cases hn)]; exact hm⟩)
          · skip
            refine aSkip ?_
            refine aDrawT spf_spread_r8_t spf_spread_r8_b [11] 12 #[false, false, false, false, false, false, false, false, false, false, false, false] (by kernel_rfl) rfl rfl (fun HT => ?_)
            refine dp HT 0 rfl pM ?_
            refine dp HT 1 rfl (pFb fd_36_1) ?_
            refine dr HT 2 rfl (rB1 ty_3) ?_
            refine dp HT 3 rfl pM ?_
            refine dp HT 4 rfl (pFb fd_49_2) ?_
            refine dr HT 5 rfl (rB1 ty_37) ?_
            refine dp HT 6 rfl (pFb fd_36_2) ?_
            refine dr HT 7 rfl (rB1 ty_3) ?_
            refine dp HT 8 rfl (by first | exact pCvK ik_3 ik_37 | exact pConv rfl rfl ik_3 ik_37 rfl) ?_
            refine dGo ?_
            refine e1 HT 9 rfl ?_
            refine cv rfl rfl rfl (lents_refl _) (cost_Add (by omega) (by omega) (by omega) (by omega)) ?_
            rw [if_neg (by omega)]
            refine ef HT 10 rfl (pBuild rfl st_49 ze_49 rfl rfl rfl rfl) ?_
            refine eLast ?_
            refine f1 HT 11 rfl ?_
            refine ca rfl rfl rfl (spf_better wb kb db hb r km dm g c h ⟨a.t, _, ((mGet km0 n).getD ⟨0, 0, 0⟩).c + a.c⟩ hk (by omega)) ?_
            rintro _ _ ⟨km', g', c', h2, rfl, rfl, hk2, hB⟩
            refine fE HT ?_
            clear HT
            refine aReg ?_
            refine sp pAd ?_
            refine sp pM ?_
            refine oNil ?_
            refine ⟨(i + 1, _, _, _, _), ?_, by (try dsimp only); omega, ⟨gInt rfl (by first | rfl | omega | simp), rfl, rfl, rfl, rfl, rfl, trivial⟩, _, (by repeat constructor)⟩
            first
              | exact ⟨by omega, hk, I.skip hlA hsA hpe (.inl (by assumption)), K, by omega, hm⟩
              | exact ⟨by omega, hk, I.skip hlA hsA hpe (.inr (by assumption)), K, by omega, hm⟩
              | (have hnd : DF dm a.t = false := by assumption
                 obtain ⟨q1, q2, q3, q4⟩ := better_step I hal.1 (by rw [hal.2]; exact hn) hpe (by assumption) hnd (by rw [hop.1, hop.2]; first | rw [if_pos (by assumption)] | rw [if_neg (by assumption)]) K hB
                 exact ⟨by omega, hk2, q1, q2, by omega, by rw [q4 n (fun e => by rw [e, hnd] at hn; cases hn)]; exact hm⟩)
    · skip
      refine aExit rfl ?_
      refine ⟨_, [.box wb [.int r, .v (.map (some kb)), .v (.map (some db)), .v (.pointer (some ⟨hb, 0, none⟩))], .map kb (kvM rtA (km)), .map db (kvM boA dm), .box hb [.v (slV g (h).length c)], .sl g c 162 2 ((h).map spC)], _, rfl, (.cons (by repeat constructor) (.cons (by repeat constructor) (.cons (by repeat constructor) (.cons (by repeat constructor) (.cons (by repeat constructor) .nil))))), km, g, c, h, rfl, rfl, hk, I.pend (fun a ha e => ?_), K, by omega⟩
      rw [List.drop_of_length_le (by omega)] at e
      simp at e
end A
end Go.Proofs.Ytmcannmjielalaa
set_option linter.unusedVariables false
set_option linter.unusedSimpArgs false
namespace Go.Proofs.Ytmcannmjielalaa
namespace A
theorem el_41 : elemOf Try.prog 41 = some (49, 3, 24) := by kernel_rfl
theorem mo_156 : mapOf Try.prog 156 = some (3, 22) := by kernel_rfl
theorem sl_41 : isSl Try.prog 41 = true := by kernel_rfl
theorem st_164 : structPlaces Try.prog 164 = some [(0, 1), (1, 1), (2, 1), (3, 1)] := by kernel_rfl
theorem us_41 : Try.prog.underlying 41 = some (.slice 49) := by kernel_rfl
theorem ze_164 : zeroOf Try.prog 164 = some (.agg #[.int .i64 0, .map none, .map none, .pointer none]) := by kernel_rfl
theorem ze_22 : zeroOf Try.prog 22 = some (.slice none 0 0) := by kernel_rfl
theorem DInv.perm {l : List Arc} {r : Int} {known : Int → Option (Int × Int)} {done : Int → Bool} {hp hp' : List (Int × Int)} {pend : Arc → Prop} (I : DInv l r known done hp pend) (h : hp.Perm hp') : DInv l r known done hp' pend :=
  ⟨I.k1, I.d1, I.d2, fun v p a b => h.mem_iff.1 (I.h1 v p a b), fun a => h.mem_iff.1 (I.hr a), fun c v a => I.h2 c v (h.mem_iff.2 a)⟩
def cntA (l : List Arc) (D : Int → Bool) : Nat := (l.filter fun a => !D a.f).length
theorem cntA_done : ∀ {l : List Arc} {D : Int → Bool} {n : Int}, D n = false → cntA l D = cntA l (updF D n true) + (l.filter fun a => a.f == n).length
  | [], _, _, _ => rfl
  | a :: l, D, n, h => by
    have ih := cntA_done (l := l) h
    unfold cntA at *
    simp only [List.filter_cons]
    by_cases e : a.f = n
    · have h1 : updF D n true a.f = true := by rw [e, updF_same]
      rw [e, h] at *
      simp [h1, updF_same]
      omega
    · have h1 : updF D n true a.f = D a.f := updF_ne _ _ e
      have h2 : (a.f == n) = false := by simpa using e
      rw [h1, h2]
      cases D a.f <;> simp <;> omega
def rKeys (l : List Arc) (r : Int) : List Int := ((List.range 65).map fun (i : Nat) => (i : Int)).filter fun v => decide (v ≠ r) && isF l r v
theorem rKeys_sorted (l : List Arc) (r : Int) : (rKeys l r).Pairwise (· < ·) := by
  refine List.Pairwise.sublist List.filter_sublist ?_
  rw [List.pairwise_map]
  exact List.pairwise_lt_range.imp (fun h => by omega)
theorem rKeys_mem {l : List Arc} (hl : ∀ a ∈ l, AOk a) {r v : Int} : v ∈ rKeys l r ↔ v ≠ r ∧ isF l r v = true := by
  unfold rKeys
  rw [List.mem_filter]
  simp only [Bool.and_eq_true, decide_eq_true_eq, List.mem_map, List.mem_range]
  refine ⟨fun h => h.2, fun h => ⟨?_, h⟩⟩
  rcases (isF_wk hl h.2).rng hl with e | e
  · exact absurd e h.1
  · exact ⟨v.toNat, by omega, by omega⟩
theorem rKeys_len (l : List Arc) (r : Int) : (rKeys l r).length ≤ 65 := by
  unfold rKeys
  refine Nat.le_trans (List.length_filter_le _ _) ?_
  simp
/-- What is known when all is done. -/
structure KEnd (l : List Arc) (r : Int) (km : List (Int × Rt)) : Prop where
  s : sortI (mKeys km) = rKeys l r
  g : ∀ n ∈ rKeys l r, (mGet km n).getD ⟨0, 0, 0⟩ = ⟨n, viaM l r n, dF l r n⟩
  n : km.length ≤ 65
theorem kend_of {l : List Arc} (hl : ∀ a ∈ l, AOk a) {r : Int} {km : List (Int × Rt)} {D : Int → Bool} (K : KI km) (I : DInv l r (kF km) D [] (fun _ => False)) : KEnd l r km := by
  have hk : ∀ v, v ∈ mKeys km ↔ v ∈ rKeys l r := fun v => by
    rw [rKeys_mem hl, ← mGet_mem]
    have h := I.done hl v
    unfold kF at h
    split at h
    · rename_i hc
      rw [Option.map_eq_some_iff] at h
      obtain ⟨x, hx, _⟩ := h
      simp [hx, hc]
    · rename_i hc
      rw [Option.map_eq_none_iff] at h
      rw [h]
      simp only [Option.isSome_none, Bool.false_eq_true, false_iff]
      exact hc
  refine ⟨sortI_eq K.1 (rKeys_sorted l r) (fun x => hk x), fun n hn => ?_, mLen K.1 (n := 65) (fun x hx => ?_)⟩
  · have h := I.done hl n
    rw [if_pos ((rKeys_mem hl).1 hn)] at h
    unfold kF at h
    rw [Option.map_eq_some_iff] at h
    obtain ⟨x, hx, he⟩ := h
    rw [hx, Option.getD_some]
    have h1 := K.2 n x hx
    obtain ⟨x1, x2, x3⟩ := x
    simp only [Prod.mk.injEq] at he h1
    rw [h1, he.1, he.2]
  · have h := (rKeys_mem hl).1 ((hk x).1 hx)
    rcases (isF_wk hl h.2).rng hl with e | e
    · exact absurd e h.1
    · omega
/-- The next one is taken. -/
theorem loop_next {l : List Arc} {r : Int} {K : Int → Option (Int × Int)} {D : Int → Bool} {h h3 : List (Int × Int)} {x2 : Int × Int} {q2 : Bool} (J : DInv l r K D h (fun _ => False)) (hq0 : q2 = false → h = [] ∧ h3 = []) (hq1 : q2 = true → h.Perm (x2 :: h3) ∧ ∀ e ∈ h, x2.1 ≤ e.1) :
    (q2 = true → DInv l r K D (x2 :: h3) (fun _ => False) ∧ ∀ e ∈ x2 :: h3, x2.1 ≤ e.1) ∧ (q2 = false → DInv l r K D [] (fun _ => False)) :=
  ⟨fun e => ⟨J.perm (hq1 e).1, fun y hy => (hq1 e).2 y ((hq1 e).1.mem_iff.2 hy)⟩, fun e => by have := hq0 e; rw [this.1] at J; exact J⟩
def bI (q : Bool) : Nat := if q then 1 else 0
theorem take_len {h h3 : List (Int × Int)} {x2 : Int × Int} {q2 : Bool} (hq0 : q2 = false → h = [] ∧ h3 = []) (hq1 : q2 = true → h.Perm (x2 :: h3) ∧ ∀ e ∈ h, x2.1 ≤ e.1) : h3.length + bI q2 = h.length := by
  cases q2 with
  | false => rw [(hq0 rfl).1, (hq0 rfl).2]; rfl
  | true => rw [(hq1 rfl).1.length_eq]; simp [bI]
/- spf.Routes -/
def spf_Routes_r7_T : Bool × List (List Nat × List Nat) := (true, [([], []), ([], []), ([1], [1]), ([], []), ([], []), ([4], [4]), ([3, 5], [3, 5]), ([], []), ([7], [7]), ([6, 8], [6, 8]), ([0, 2, 9, 9, 0, 1, 2, 3, 4, 5, 6, 7, 8, 9], [0, 2, 9])])
def spf_Routes_r7_B : List Nat := [0, 0, 2, 0, 0, 16, 56, 0, 128, 504, 1023]
theorem spf_Routes_r7_t : Go.Proofs.YtmcannmjielalaaW.PrintLast.rtab .any (Go.Proofs.YtmcannmjielalaaW.PrintLast.opsOf Try.f43 7) = spf_Routes_r7_T := by kernel_rfl
theorem spf_Routes_r7_b : Go.Proofs.YtmcannmjielalaaW.PrintLast.waitsOk spf_Routes_r7_T.2 spf_Routes_r7_B = true := by kernel_rfl
def spf_Routes_r13_T : Bool × List (List Nat × List Nat) := (true, [([], []), ([0], [0]), ([1], [1]), ([2], [2]), ([], []), ([4], [4]), ([3, 5], [3, 5]), ([6], [6])])
def spf_Routes_r13_B : List Nat := [0, 1, 3, 7, 0, 16, 63, 127]
theorem spf_Routes_r13_t : Go.Proofs.YtmcannmjielalaaW.PrintLast.rtab .any (Go.Proofs.YtmcannmjielalaaW.PrintLast.opsOf Try.f43 13) = spf_Routes_r13_T := by kernel_rfl
theorem spf_Routes_r13_b : Go.Proofs.YtmcannmjielalaaW.PrintLast.waitsOk spf_Routes_r13_T.2 spf_Routes_r13_B = true := by kernel_rfl
def spf_Routes_r14_T : Bool × List (List Nat × List Nat) := (true, [([], []), ([0], [0]), ([1], [1]), ([2], [2]), ([], []), ([4], [4]), ([3, 5, 0, 1, 2, 3, 4, 5], [3, 5])])
def spf_Routes_r14_B : List Nat := [0, 1, 3, 7, 0, 16, 63]
theorem spf_Routes_r14_t : Go.Proofs.YtmcannmjielalaaW.PrintLast.rtab .any (Go.Proofs.YtmcannmjielalaaW.PrintLast.opsOf Try.f43 14) = spf_Routes_r14_T := by kernel_rfl
theorem spf_Routes_r14_b : Go.Proofs.YtmcannmjielalaaW.PrintLast.waitsOk spf_Routes_r14_T.2 spf_Routes_r14_B = true := by kernel_rfl
set_option maxRecDepth 100000 in
set_option maxHeartbeats 8000000 in
theorem spf_Routes {l : List Arc} {r : Int} (hll : l.length ≤ 400000 := by omega) : Triple Try.prog 43 [.sl 3 (l.map arcC), .int r] [] (Own 49 3 ((if arcsB none l then routesM l r else []).map rtC) []) := by
  refine triple_of Try.func43 rfl (by kernel_rfl) rfl (by simp) ?_
  refine aSeq ?_
  refine aReg ?_
  refine sp pMa ?_
  refine oNil ?_
  refine aSeq ?_
  refine aSeq ?_
  refine aReg ?_
  refine sp pM ?_
  refine sq ?_
  refine cv rfl rfl rfl (lents_refl _) graph_Check ?_
  refine sp pB ?_
  refine oNil ?_
  refine aCondNe rfl (fun c16 => ?_) (fun c16 => ?_)
  · skip
    refine aSeq ?_
    refine aWeak (weak_nil 49 3) ?_
    refine aReg ?_
    refine sp pMa ?_
    refine oNil ?_
    refine aRet ?_
    refine finOwn rfl ?_
    have hno : arcsB none l = false := by cases h : arcsB none l <;> simp_all
    rw [hno]
    rfl
  · skip
    refine aSkip ?_
    refine aSeq ?_
    have hyes : arcsB none l = true := by cases h : arcsB none l <;> simp_all
    have hlA := arcs_ok hyes
    have hsA := arcsB_sorted hyes
    refine aReg ?_
    refine sq ?_
    refine qMakeMap rfl rfl (by decide) (fun b17 => ?_)
    refine sp pMa ?_
    refine oNil ?_
    refine aSeq ?_
    refine aSeq ?_
    refine aReg ?_
    refine sp pM ?_
    refine sp (by first | exact pLm sl_22 | exact pLs sl_22) ?_
    refine sp pM ?_
    refine oNil ?_
    refine aBlock ?_
    refine aLoopI (α := Nat × List (Int × SlE Arc)) (fun (i, m) => i ≤ l.length ∧ ∀ k, (slAt m k).l = (l.take i).filter fun a => a.f == k) (fun (i, m) => ([(1, .int r), (5, .v (.map (some b17))), (18, .sl 3 (l.map arcC)), (19, .int l.length), (20, .int i)], .map b17 (kvM slE m) :: msH 36 3 arcC m)) (fun (i, m) => l.length - i) (0, []) ?_ ?_ ?_
    · skip
      exact ⟨by omega, fun k => by simp [slAt, mGet, sl0]⟩
    · skip
      exact weak_env ⟨rfl, rfl, rfl, gInt rfl (by simp), rfl, trivial⟩
    · rintro ⟨i, m⟩ ⟨hi, hM⟩
      skip
      refine aSeq ?_
      refine aReg ?_
      refine sp pB ?_
      refine oNil ?_
      refine aSeq ?_
      refine aCondDec rfl (fun c21 => ?_) (fun c21 => ?_)
      · skip
        refine aSkip ?_
        refine aSeq ?_
        refine aBlock ?_
        refine aSeq ?_
        obtain ⟨a, ha⟩ : ∃ a, l[i]? = some a := ⟨_, List.getElem?_eq_getElem (by omega)⟩
        refine aReg ?_
        first | refine sp (pIx es_22) ?_ | (refine obtSN 18 20 rfl rfl (by omega) (fun x22 hx22 => ?_); refine sp (pIs es_22 hx22) ?_) | (refine obtS 18 20 rfl rfl (by omega) (by omega) (fun x22 hx22 => ?_); refine sp (pIs es_22 hx22) ?_) | refine sp (pIo es_22) ?_
        refine sr (by first | exact rSW ty_36 rfl | exact rSA ty_36 | exact rBWa ty_36 | exact rBW ty_36 | exact rBA ty_36 | exact rArA ty_36 (fun _ => rfl)) ?_
        refine sq ?_
        refine qAlloc rfl rfl (by decide) ze_36 rfl (fun b7 => ?_)
        refine sa ?_
        refine oStW rfl rfl rfl rfl (by repeat constructor) ty_36 ?_
        refine oNil ?_
        have hsl : (slAt m a.f).l.length ≤ 1000000 := by rw [hM]; have := filter_len (p := fun b : Arc => b.f == a.f) (l := l) (i := i); omega
        refine aWeak (weak_takeS (h0 := [_, _]) a.f) ?_
        dsimp only [List.cons_append, List.nil_append]
        refine aDrawS (h1 := [.box b7 _, .map b17 _]) spf_Routes_r7_t spf_Routes_r7_b [10] 11 #[false, false, false, false, false, false, false, false, false, false, false] (by kernel_rfl) rfl rfl (.cons (by repeat constructor) (.cons (by repeat constructor) .nil)) (fun HT => ?_)
        refine ep HT 0 rfl pM ?_
        refine ep HT 1 rfl (pFb fd_36_0) ?_
        refine er HT 2 rfl (rB1 ty_3) ?_
        refine ep HT 3 rfl pM ?_
        refine ep HT 4 rfl (pFb fd_36_0) ?_
        refine er HT 5 rfl (rB1 ty_3) ?_
        refine er HT 6 rfl (rMG mo_156 ze_22 (sl0 : SlE Arc) .refl) ?_
        refine er HT 7 rfl (by first | exact rBWa ty_36 | exact rBW ty_36 | exact rBA ty_36) ?_
        refine e1 HT 8 rfl ?_
        refine qLit (l := [_]) rfl rfl (by decide) us_22 ty_36 ze_36 rfl (by decide) (by decide) rfl rfl rfl (fun b32 => ?_)
        refine eOneS (i := 9) #[true, true, true, true, true, true, true, true, true, true, false] rfl (HT.one (by kernel_rfl)) (by decide) ?_
        · skip
          refine stA (hx := [.sl (slAt m a.f).g _ _ _ _, .sl (some b32) _ _ _ _]) (wantN rfl) (fun t ht => by cases ht <;> decide) (.cons (by repeat constructor) (.cons (by repeat constructor) .nil)) (by repeat constructor) ?_
          refine oAppT ([a] : List Arc) rfl rfl (by repeat constructor) (srcOwn rfl (by repeat constructor) rfl) el_22 sl_22 (fun g33 k33 => ?_)
          refine undel (d := 33) rfl ?_
          dsimp only [List.cons_append, List.nil_append]
          refine eLast ?_
          refine f1 HT 10 rfl ?_
          refine oMP (c := slE) (v := ⟨g33, k33, (slAt m a.f).l ++ [a]⟩) rfl rfl rfl rfl mo_156 ?_
          refine fE HT ?_
          clear HT
          refine aReg ?_
          refine sp pAd ?_
          refine sp pM ?_
          refine oNil ?_
          refine ⟨(i + 1, mPut m a.f ⟨g33, k33, (slAt m a.f).l ++ [a]⟩), ⟨by omega, fun k => ?_⟩, by show l.length - (i + 1) < l.length - i; omega, ?_⟩
          rotate_left
          · refine Weak.trans ?_ (weak_putS (h0 := [_]))
            exact weak_sub ⟨rfl, rfl, rfl, rfl, gInt rfl (by simp), trivial⟩ (.cons (by repeat constructor) (.cons (by repeat constructor) (tk_after (l := [_, _]))))
          rw [slAt_put, filter_take ha]
          by_cases e : k = a.f
          · subst e; simp [hM]
          · rw [if_neg e, hM, if_neg (by simpa using fun e' => e e'.symm), List.append_nil]
      · skip
        refine aExit rfl ?_
        refine aSeq ?_
        rw [take_all (by omega)] at hM
        refine aWeak weak_settleMS ?_
        refine aReg ?_
        refine sp pM ?_
        refine sq ?_
        refine qMakeMap rfl rfl (by decide) (fun b36 => ?_)
        refine sq ?_
        refine qMM boA rfl (fun b37 => ?_)
        refine sp pM ?_
        refine sp (pBuild rfl st_162 ze_162 rfl rfl rfl rfl) ?_
        refine sq ?_
        refine qLit (l := [_]) rfl rfl (by decide) us_261 ty_162 ze_162 rfl (by decide) (by decide) rfl rfl rfl (fun b40 => ?_)
        refine oWeak (weak_settle (k := 40) (es := [(0, r)].map spC) rfl .hd rfl) ?_
        refine sa ?_
        refine ca rfl rfl rfl (heap_New [(0, r)] (by simp)) ?_
        rintro _ _ ⟨hb, g, c, h, rfl, rfl, hk, hpm⟩
        refine sp (pBuild rfl st_164 ze_164 rfl rfl rfl rfl) ?_
        refine sq ?_
        refine qBox rfl rfl (by decide) rfl rfl (fun b43 => ?_)
        refine sp pMa ?_
        refine oNil ?_
        refine aSeq ?_
        refine aSeq ?_
        refine aReg ?_
        refine sp pM ?_
        refine sp pNv ?_
        refine sp (pFb fd_164_3) ?_
        refine sr (rB1 ty_159) ?_
        refine sa ?_
        refine ca rfl rfl rfl (heap_Take hb g c h hk (by have := hpm.length_eq; simp at this; omega)) ?_
        rintro _ _ ⟨x, q, h1, g1, c1, rfl, rfl, hk1, hq0, hq1⟩
        refine sp pM ?_
        refine sp pX ?_
        refine sp pX ?_
        refine sq ?_
        refine qAlloc rfl rfl (by decide) ze_162 rfl (fun b9 => ?_)
        refine sa ?_
        refine oStW rfl rfl rfl rfl (by repeat constructor) ty_162 ?_
        refine sp pMa ?_
        refine oNil ?_
        refine aBlock ?_
        refine loopF (α := List (Int × Rt) × List (Int × Bool) × (Int × Int) × Bool × Option Nat × Nat × List (Int × Int) × Nat) (kept := [(5, _), (8, _)]) (fun (km, dm, x, q, g, c, h, b) => HeapOk h ∧ KI km ∧ (q = true → DInv l r (kF km) (DF dm) (x :: h) (fun _ => False) ∧ ∀ e ∈ x :: h, x.1 ≤ e.1) ∧ (q = false → DInv l r (kF km) (DF dm) [] (fun _ => False)) ∧ h.length + bI q + cntA l (DF dm) ≤ l.length + 1) (fun (km, dm, x, q, g, c, h, b) => [(9, .v (.pointer (some ⟨b, 0, none⟩))), (10, .v (.bool q))]) (fun (km, dm, x, q, g, c, h, b) => [.box b43 [.int r, .v (.map (some b36)), .v (.map (some b37)), .v (.pointer (some ⟨hb, 0, none⟩))], .map b36 (kvM rtA (km)), .map b37 (kvM boA (dm)), .box hb [.v (slV g (h).length c)], .sl g c 162 2 ((h).map spC), .box b (spC x)]) (fun (km, dm, x, q, g, c, h, b) => h.length + bI q + cntA l (DF dm)) ([], [], x, q, g1, c1, h1, b9) ?_ ⟨rfl, rfl, rfl, rfl, trivial⟩ (by repeat constructor) ?_
        · skip
          have hN : DInv l r (kF []) (DF []) h (fun _ => False) := (dinv_new l r).perm hpm.symm
          have hnx := loop_next hN hq0 hq1
          have htl := take_len hq0 hq1
          have hpl := hpm.length_eq
          simp at hpl
          exact ⟨hk1, ⟨by simp [mKeys], fun v x hx => by simp [mGet] at hx⟩, hnx.1, hnx.2, by have : cntA l (DF []) ≤ l.length := List.length_filter_le _ _; omega⟩
        · rintro ⟨km, dm, x, q, g, c, h, b⟩ ⟨hk, K, hQ1, hQ0, hB⟩
          refine aSeq ?_
          refine aSeq ?_
          refine aReg ?_
          refine sp pM ?_
          refine oNil ?_
          refine aCond rfl (fun c52 => ?_) (fun c52 => ?_)
          · skip
            refine aSkip ?_
            refine aSeq ?_
            refine aBlock ?_
            refine aSeq ?_
            obtain ⟨I, hmin⟩ := hQ1 (by assumption)
            refine aDrawT spf_Routes_r13_t spf_Routes_r13_b [] 8 #[false, false, false, false, false, false, false, false] (by kernel_rfl) rfl rfl (fun HT => ?_)
            refine dp HT 0 rfl pM ?_
            refine dp HT 1 rfl pNv ?_
            refine dp HT 2 rfl (pFb fd_164_2) ?_
            refine dr HT 3 rfl (rB1 ty_144) ?_
            refine dp HT 4 rfl (by first | exact pFb fd_162_1 | exact pFs fd_162_1) ?_
            refine dr HT 5 rfl (by first | exact rS1 ty_3 | exact rB1 ty_3 | exact rAr ty_3 | exact rArL ty_3 | exact rArR2 ty_3) ?_
            refine dr HT 6 rfl (rMGb mo_144 ze_4) ?_
            refine dp HT 7 rfl pNo ?_
            refine dE HT ?_
            clear HT
            refine aCondNot rfl (fun c68 => ?_) (fun c68 => ?_)
            · skip
              refine aSeq ?_
              refine aDrawT spf_Routes_r14_t spf_Routes_r14_b [6] 7 #[false, false, false, false, false, false, false] (by kernel_rfl) rfl rfl (fun HT => ?_)
              refine dp HT 0 rfl pM ?_
              refine dp HT 1 rfl pNv ?_
              refine dp HT 2 rfl (pFb fd_164_2) ?_
              refine dr HT 3 rfl (rB1 ty_144) ?_
              refine dp HT 4 rfl (by first | exact pFb fd_162_1 | exact pFs fd_162_1) ?_
              refine dr HT 5 rfl (by first | exact rS1 ty_3 | exact rB1 ty_3 | exact rAr ty_3 | exact rArL ty_3 | exact rArR2 ty_3) ?_
              refine dGo ?_
              refine eLast ?_
              refine f1 HT 6 rfl ?_
              first | refine oMP rfl rfl rfl rfl mo_144 ?_ | refine oMapSet rfl rfl rfl rfl rfl (by repeat constructor) mo_144 ?_
              refine fE HT ?_
              clear HT
              refine aReg ?_
              refine sp pM ?_
              refine sp pM ?_
              refine sp (by first | exact pFb fd_162_1 | exact pFs fd_162_1) ?_
              refine sr (by first | exact rS1 ty_3 | exact rB1 ty_3 | exact rAr ty_3 | exact rArL ty_3 | exact rArR2 ty_3) ?_
              refine sr (rMG (c := slS 3 arcC) mo_156 ze_22 ([] : List Arc) cast_nil) ?_
              rw [show slS 3 arcC ((mGet (msL m) x.2).getD []) = .sl 3 ((l.filter fun a => a.f == x.2).map arcC) by rw [← hM x.2, msL_get, slAt]; cases mGet m x.2 <;> rfl]
              refine sp (by first | exact pFb fd_162_1 | exact pFs fd_162_1) ?_
              refine sr (by first | exact rS1 ty_3 | exact rB1 ty_3 | exact rAr ty_3 | exact rArL ty_3 | exact rArR2 ty_3) ?_
              have hnd : DF dm x.2 = false := by assumption
              have Itk : DInv l r (kF km) (DF (mPut dm x.2 true)) h (fun a => a.f = x.2) := by rw [DF_put]; exact I.take hlA hsA (.refl _) hmin hnd
              have hcnt := cntA_done (l := l) hnd
              rw [← DF_put (b := true)] at hcnt
              refine sa ?_
              refine ca rfl rfl rfl (spf_spread hlA hsA (by omega) b43 b36 b37 hb km (mPut dm x.2 true) g c h x.2 (l.filter fun a => a.f == x.2) rfl hk (by omega) Itk (by rw [DF_put, updF_same]) K) ?_
              rintro _ _ ⟨km', g', c', h', rfl, rfl, hk', I', K', hl'⟩
              refine oNil ?_
              refine aSeq ?_
              refine aSeq ?_
              refine aReg ?_
              refine sr (by first | exact rSW ty_162 rfl | exact rSA ty_162 | exact rBWa ty_162 | exact rBW ty_162 | exact rBA ty_162 | exact rArA ty_162 (fun _ => rfl)) ?_
              refine oNil ?_
              refine aReg ?_
              refine sq ?_
              refine qAlloc rfl rfl (by decide) ze_162 rfl (fun b9 => ?_)
              refine sa ?_
              refine oStW rfl rfl rfl rfl (by repeat constructor) ty_162 ?_
              refine oNil ?_
              refine aReg ?_
              refine sp pM ?_
              refine sp pNv ?_
              refine sp (pFb fd_164_3) ?_
              refine sr (rB1 ty_159) ?_
              refine sa ?_
              first | refine ca rfl rfl rfl (heap_Take hb g' c' h' hk' (by omega)) ?_ | refine ca rfl rfl rfl (heap_Take hb g c h hk (by omega)) ?_
              rintro _ _ ⟨x2, q2, h3, g3, c3, rfl, rfl, hk3, hq0', hq1'⟩
              have hlt := take_len hq0' hq1'
              refine sp pM ?_
              refine sp pX ?_
              refine sp pX ?_
              refine sa ?_
              refine oStW rfl rfl rfl rfl (by repeat constructor) ty_162 ?_
              refine sp pMa ?_
              refine oNil ?_
              have hbq : bI q = 1 := by rw [show q = true by assumption]; rfl
              first
                | (refine ⟨(km', mPut dm x.2 true, x2, q2, g3, c3, h3, _), ?_, by (try dsimp only); omega, ⟨rfl, rfl, rfl, rfl, trivial⟩, _, (by repeat constructor)⟩
                   have hnx := loop_next I' hq0' hq1'
                   exact ⟨hk3, K', hnx.1, hnx.2, by omega⟩)
                | (refine ⟨(km, dm, x2, q2, g3, c3, h3, _), ?_, by (try dsimp only); omega, ⟨rfl, rfl, rfl, rfl, trivial⟩, _, (by repeat constructor)⟩
                   have hdn : DF dm x.2 = true := by assumption
                   have hnx := loop_next (I.old (.refl _) hdn) hq0' hq1'
                   exact ⟨hk3, K, hnx.1, hnx.2, by omega⟩)
            · skip
              refine aSkip ?_
              refine aSeq ?_
              refine aSeq ?_
              refine aReg ?_
              refine sr (by first | exact rSW ty_162 rfl | exact rSA ty_162 | exact rBWa ty_162 | exact rBW ty_162 | exact rBA ty_162 | exact rArA ty_162 (fun _ => rfl)) ?_
              refine oNil ?_
              refine aReg ?_
              refine sq ?_
              refine qAlloc rfl rfl (by decide) ze_162 rfl (fun b9 => ?_)
              refine sa ?_
              refine oStW rfl rfl rfl rfl (by repeat constructor) ty_162 ?_
              refine oNil ?_
              refine aReg ?_
              refine sp pM ?_
              refine sp pNv ?_
              refine sp (pFb fd_164_3) ?_
              refine sr (rB1 ty_159) ?_
              refine sa ?_
              first | refine ca rfl rfl rfl (heap_Take hb g' c' h' hk' (by omega)) ?_ | refine ca rfl rfl rfl (heap_Take hb g c h hk (by omega)) ?_
              rintro _ _ ⟨x2, q2, h3, g3, c3, rfl, rfl, hk3, hq0', hq1'⟩
              have hlt := take_len hq0' hq1'
              refine sp pM ?_
              refine sp pX ?_
              refine sp pX ?_
              refine sa ?_
              refine oStW rfl rfl rfl rfl (by repeat constructor) ty_162 ?_
              refine sp pMa ?_
              refine oNil ?_
              have hbq : bI q = 1 := by rw [show q = true by assumption]; rfl
              first
                | (refine ⟨(km', mPut dm x.2 true, x2, q2, g3, c3, h3, _), ?_, by (try dsimp only); omega, ⟨rfl, rfl, rfl, rfl, trivial⟩, _, (by repeat constructor)⟩
                   have hnx := loop_next I' hq0' hq1'
                   exact ⟨hk3, K', hnx.1, hnx.2, by omega⟩)
                | (refine ⟨(km, dm, x2, q2, g3, c3, h3, _), ?_, by (try dsimp only); omega, ⟨rfl, rfl, rfl, rfl, trivial⟩, _, (by repeat constructor)⟩
                   have hdn : DF dm x.2 = true := by assumption
                   have hnx := loop_next (I.old (.refl _) hdn) hq0' hq1'
                   exact ⟨hk3, K, hnx.1, hnx.2, by omega⟩)
          · skip
            refine aExit rfl ?_
            refine aSeq ?_
            refine aReg ?_
            refine sp pMa ?_
            refine oNil ?_
            refine aSeq ?_
            refine aSeq ?_
            refine aWeak (weak_nil 49 3) ?_
            have hE := kend_of hlA K (hQ0 (by assumption))
            refine aReg ?_
            refine sp pM ?_
            refine sp pNv ?_
            refine sp (pFb fd_164_1) ?_
            refine sr (rB1 ty_158) ?_
            refine sa ?_
            refine ca rfl rfl rfl (keys_mir b36) ?_
            rintro _ _ ⟨pb, rfl, rfl⟩
            refine sa ?_
            refine cai rfl rfl rfl (sorted_int_s _ _ (kvM rtA km) _ (keys1_mir_iter b36 pb (kvM rtA km)) (by rw [kvM_len]; have := hE.n; omega)) ?_
            rw [kvM_keys, hE.s]
            have hkl := rKeys_len l r
            refine sp (by first | exact pLm sl_25 | exact pLs sl_25 | exact pLv sl_25) ?_
            refine sp pM ?_
            refine oNil ?_
            refine aBlock ?_
            refine loopF (α := Nat × List Rt × Option Nat × Nat) (kept := [(8, _), (89, _), (90, _)]) (fun (i, out, g, c) => i ≤ (rKeys l r).length ∧ out = ((rKeys l r).take i).map fun v => ⟨v, viaM l r v, dF l r v⟩) (fun (i, out, g, c) => [(91, .int i), (11, .v (slV g out.length c))]) (fun (i, out, g, c) => [.sl g c 49 3 (out.map rtC)]) (fun (i, out, g, c) => (rKeys l r).length - i) (0, [], _, _) ?_ ⟨gInt rfl (by first | rfl | omega | simp), gLen rfl (by first | rfl | simp | (simp; omega)), rfl, rfl, rfl, trivial⟩ (by repeat constructor) ?_
            · skip
              exact ⟨by omega, rfl⟩
            · rintro ⟨i, out, g, c⟩ ⟨hi, ho⟩
              refine aSeq ?_
              refine aReg ?_
              refine sp pB ?_
              refine oNil ?_
              refine aSeq ?_
              refine aCondDec rfl (fun c92 => ?_) (fun c92 => ?_)
              · skip
                refine aSkip ?_
                refine aSeq ?_
                refine aBlock ?_
                refine aSeq ?_
                obtain ⟨nn, hnn⟩ : ∃ n, (rKeys l r)[i]? = some n := ⟨_, List.getElem?_eq_getElem (by omega)⟩
                have hget := hE.g nn (List.mem_of_getElem? hnn)
                refine aReg ?_
                first | refine sp (pIx es_25) ?_ | (refine obtSN 89 91 rfl rfl (by omega) (fun x93 hx93 => ?_); refine sp (pIs es_25 hx93) ?_) | (refine obtS 89 91 rfl rfl (by omega) (by omega) (fun x93 hx93 => ?_); refine sp (pIs es_25 hx93) ?_) | refine sp (pIo es_25) ?_
                refine sr (by first | exact rS1 ty_3 | exact rB1 ty_3 | exact rAr ty_3 | exact rArL ty_3 | exact rArR2 ty_3) ?_
                refine sp pMa ?_
                refine oNil ?_
                have hol : out.length ≤ 65 := by rw [ho, List.length_map, List.length_take]; omega
                refine aReg ?_
                refine sp pM ?_
                refine sp pM ?_
                refine sp pNv ?_
                refine sp (pFb fd_164_1) ?_
                refine sr (rB1 ty_158) ?_
                refine sp pM ?_
                refine sr (rMG mo_158 ze_49 (⟨0, 0, 0⟩ : Rt) cast_rt) ?_
                rw [hget]
                refine sq ?_
                refine qLit (l := [_]) rfl rfl (by decide) us_41 ty_49 ze_49 rfl (by decide) (by decide) rfl rfl rfl (fun b102 => ?_)
                refine sa ?_
                refine oAppT ([⟨nn, viaM l r nn, dF l r nn⟩] : List Rt) rfl rfl (by repeat constructor) (srcOwn rfl (by repeat constructor) rfl) el_41 sl_41 (fun g103 k103 => ?_)
                refine sp pMa ?_
                refine oNil ?_
                refine aReg ?_
                refine sp pAd ?_
                refine sp pM ?_
                refine oNil ?_
                refine ⟨(i + 1, _, _, _), ?_, by (try dsimp only); omega, ⟨gInt rfl (by first | rfl | omega | simp), gLen rfl (by first | rfl | simp | (simp; omega)), rfl, rfl, rfl, trivial⟩, _, (by repeat constructor)⟩
                refine ⟨by omega, ?_⟩
                rw [take_step hnn, List.map_append, ← ho]
                rfl
              · skip
                refine aExit rfl ?_
                refine aSeq ?_
                refine aReg ?_
                refine sp pM ?_
                refine sp pMa ?_
                refine oNil ?_
                refine aRet ?_
                refine finOwn rfl ?_
                rw [hyes, ho, take_all (by omega)]
                rfl
end A
end Go.Proofs.Ytmcannmjielalaa
set_option linter.unusedVariables false
set_option linter.unusedSimpArgs false
namespace Go.Proofs.Ytmcannmjielalaa
namespace A
theorem es_41 : elemSize Try.prog 41 = some 3 := by kernel_rfl
def rtsM (l : List Arc) (r : Int) : List Rt := if arcsB none l then routesM l r else []
theorem spf_Routes_s {l : List Arc} {r : Int} (hll : l.length ≤ 400000 := by omega) : Triple Try.prog 43 [.sl 3 (l.map arcC), .int r] [] (Is (.sl 3 ((rtsM l r).map rtC)) []) := (spf_Routes (l := l) (r := r) hll).settle
theorem routesM_eq (l : List Arc) (r : Int) : routesM l r = (rKeys l r).map fun v => ⟨v, viaM l r v, dF l r v⟩ := rfl
theorem rtsM_len (l : List Arc) (r : Int) : (rtsM l r).length ≤ 65 := by
  unfold rtsM
  split
  · rw [routesM_eq, List.length_map]; exact rKeys_len l r
  · simp
theorem rtsM_mem {l : List Arc} {r : Int} {x : Rt} (h : x ∈ rtsM l r) : arcsB none l = true ∧ x.nd ≠ r ∧ isF l r x.nd = true ∧ x = ⟨x.nd, viaM l r x.nd, dF l r x.nd⟩ := by
  unfold rtsM at h
  split at h
  · rename_i hok
    rw [routesM_eq, List.mem_map] at h
    obtain ⟨v, hv, rfl⟩ := h
    have := (rKeys_mem (arcs_ok hok)).1 hv
    exact ⟨hok, this.1, this.2, rfl⟩
  · simp at h
theorem rtsM_of {l : List Arc} {r v : Int} (hok : arcsB none l = true) (h1 : v ≠ r) (h2 : isF l r v = true) : (⟨v, viaM l r v, dF l r v⟩ : Rt) ∈ rtsM l r := by
  unfold rtsM
  rw [if_pos hok, routesM_eq, List.mem_map]
  exact ⟨v, (rKeys_mem (arcs_ok hok)).2 ⟨h1, h2⟩, rfl⟩
end A
end Go.Proofs.Ytmcannmjielalaa
set_option linter.unusedVariables false
set_option linter.unusedSimpArgs false
namespace Go.Proofs.Ytmcannmjielalaa
namespace A
theorem isF_range {l : List Arc} (hl : ∀ a ∈ l, AOk a) {r v : Int} (h : isF l r v = true) : 1 ≤ r ∧ r ≤ 64 ∧ 1 ≤ v ∧ v ≤ 64 := by
  by_cases hr : 1 ≤ r ∧ r ≤ 64
  · rcases (isF_wk hl h).rng hl with e | e
    · omega
    · omega
  · rw [isF_none hl hr] at h; cases h
end A
end Go.Proofs.Ytmcannmjielalaa
