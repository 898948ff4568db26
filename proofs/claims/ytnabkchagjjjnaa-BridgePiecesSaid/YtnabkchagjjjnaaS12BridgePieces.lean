/- Texts that BridgePieces's proof rests on, part 13. -/
import Derived.KernelRfl
import Derived.Test.YtnabkchagjjjnaaProg
import Derived.Test.YtnabkchagjjjnaaS11BridgePieces
set_option linter.unusedVariables false
set_option linter.unusedSimpArgs false
namespace Go.Proofs.Ytnabkchagjjjnaa
namespace A
theorem es_51 : elemSize Try.prog 51 = some 1 := by kernel_rfl
theorem es_55 : elemSize Try.prog 55 = some 3 := by kernel_rfl
theorem fd_90_0 : fieldOf Try.prog 90 0 = some (0, 1, false) := by kernel_rfl
theorem fd_90_1 : fieldOf Try.prog 90 1 = some (1, 1, false) := by kernel_rfl
theorem fd_90_2 : fieldOf Try.prog 90 2 = some (2, 1, false) := by kernel_rfl
theorem sl_51 : isSl Try.prog 51 = true := by kernel_rfl
theorem sl_55 : isSl Try.prog 55 = true := by kernel_rfl
theorem ty_3 : tyOf Try.prog 3 = some (1, false) := by kernel_rfl
theorem ty_90 : tyOf Try.prog 90 = some (3, true) := by kernel_rfl
theorem us_51 : Try.prog.underlying 51 = some (.slice 3) := by kernel_rfl
theorem ze_3 : zeroOf Try.prog 3 = some (.int .i64 0) := by kernel_rfl
theorem ze_90 : zeroOf Try.prog 90 = some (.agg #[.int .i64 0, .int .i64 0, .int .i64 0]) := by kernel_rfl
def cmpI (a b : Int) : Int := if a < b then -1 else if b < a then 1 else 0
def orI : List Int → Int
  | [] => 0
  | a :: l => if a ≠ 0 then a else orI l
theorem orI_drop {xs : List Int} {i : Nat} {a : Int} (h : xs[i]? = some a) : orI (xs.drop i) = if a ≠ 0 then a else orI (xs.drop (i + 1)) := by
  rw [drop_step h]
  rfl
/- cmp.isNaN[int] -/
set_option maxRecDepth 100000 in
set_option maxHeartbeats 400000 in
theorem cmp_isNaN {n : Int} : Triple Try.prog 74 [.int n] [] (Is (.v (.bool false)) []) := by
  refine triple_of Try.func74 rfl (by kernel_rfl) rfl (by simp) ?_
  refine aSeq ?_
  refine aReg ?_
  refine sp pMa ?_
  refine oNil ?_
  refine aSeq ?_
  refine aReg ?_
  refine sp pM ?_
  refine sp pM ?_
  refine sp pB ?_
  refine sp pMa ?_
  refine oNil ?_
  refine aRet ?_
  refine finIs rfl ?_
  simp [retOf]
/- cmp.Compare[int] -/
set_option maxRecDepth 100000 in
set_option maxHeartbeats 400000 in
theorem cmp_Compare {a b : Int} : Triple Try.prog 54 [.int a, .int b] [] (Is (.v (.int .i64 (cmpI a b))) []) := by
  refine triple_of Try.func54 rfl (by kernel_rfl) rfl (by simp) ?_
  refine aSeq ?_
  refine aReg ?_
  refine sp pMa ?_
  refine oNil ?_
  refine aSeq ?_
  refine aReg ?_
  refine sp pM ?_
  refine sq ?_
  refine cv rfl rfl rfl (lents_refl _) cmp_isNaN ?_
  refine sp pMa ?_
  refine oNil ?_
  refine aSeq ?_
  refine aReg ?_
  refine sp pM ?_
  refine sq ?_
  refine cv rfl rfl rfl (lents_refl _) cmp_isNaN ?_
  refine sp pMa ?_
  refine oNil ?_
  refine aSeq ?_
  refine aSeq ?_
  refine aReg ?_
  refine sp pM ?_
  refine oNil ?_
  refine aCond rfl (fun c11 => ?_) (fun c11 => ?_)
  · skip
    refine aSeq ?_
    refine aSeq ?_
    refine aReg ?_
    refine sp pM ?_
    refine oNil ?_
    refine aCond rfl (fun c12 => ?_) (fun c12 => ?_)
    · skip
      refine aSeq ?_
      refine aReg ?_
      refine sp pMa ?_
      refine oNil ?_
      refine aRet ?_
      refine finIs rfl ?_
      simp_all [retOf, cmpI] <;> omega
    · skip
      refine aSkip ?_
      refine aSeq ?_
      refine aReg ?_
      refine sp pMa ?_
      refine oNil ?_
      refine aRet ?_
      refine finIs rfl ?_
      simp_all [retOf, cmpI] <;> omega
  · skip
    refine aSkip ?_
    refine aSeq ?_
    refine aSeq ?_
    refine aReg ?_
    refine sp pM ?_
    refine oNil ?_
    refine aCond rfl (fun c13 => ?_) (fun c13 => ?_)
    · skip
      refine aSeq ?_
      refine aReg ?_
      refine sp pMa ?_
      refine oNil ?_
      refine aRet ?_
      refine finIs rfl ?_
      simp_all [retOf, cmpI] <;> omega
    · skip
      refine aSkip ?_
      refine aSeq ?_
      refine aSeq ?_
      refine aReg ?_
      refine sp pM ?_
      refine sp pM ?_
      refine sp pB ?_
      refine oNil ?_
      refine aCondDec rfl (fun c16 => ?_) (fun c16 => ?_)
      · skip
        refine aSeq ?_
        refine aReg ?_
        refine sp pMa ?_
        refine oNil ?_
        refine aRet ?_
        refine finIs rfl ?_
        simp_all [retOf, cmpI] <;> omega
      · skip
        refine aSkip ?_
        refine aSeq ?_
        refine aSeq ?_
        refine aReg ?_
        refine sp pM ?_
        refine sp pM ?_
        refine sp pB ?_
        refine oNil ?_
        refine aCondDec rfl (fun c19 => ?_) (fun c19 => ?_)
        · skip
          refine aSeq ?_
          refine aReg ?_
          refine sp pMa ?_
          refine oNil ?_
          refine aRet ?_
          refine finIs rfl ?_
          simp_all [retOf, cmpI] <;> omega
        · skip
          refine aSkip ?_
          refine aSeq ?_
          refine aReg ?_
          refine sp pMa ?_
          refine oNil ?_
          refine aRet ?_
          refine finIs rfl ?_
          simp_all [retOf, cmpI] <;> omega
/- cmp.Or[int] -/
set_option maxRecDepth 100000 in
set_option maxHeartbeats 400000 in
theorem cmp_Or (xs : List Int) (hx : xs.length ≤ 1000 := by simp) : Triple Try.prog 53 [.sl 1 (xs.map intA)] [] (Is (.v (.int .i64 (orI xs))) []) := by
  refine triple_of Try.func53 rfl (by kernel_rfl) rfl (by simp) ?_
  refine aSeq ?_
  refine aReg ?_
  refine sp pMa ?_
  refine oNil ?_
  refine aSeq ?_
  refine aReg ?_
  refine sp pMa ?_
  refine oNil ?_
  refine aSeq ?_
  refine aSeq ?_
  refine aReg ?_
  refine sp pM ?_
  refine sp (by first | exact pLm sl_51 | exact pLs sl_51) ?_
  refine sp pM ?_
  refine oNil ?_
  refine aBlock ?_
  refine loopF (α := Nat) (kept := [(3, _), (6, _), (7, _)]) (fun i => i ≤ xs.length ∧ orI (xs.drop i) = orI xs) (fun i => [(8, .int i)]) (fun i => []) (fun i => xs.length - i) 0 ?_ ⟨gInt rfl (by first | rfl | omega | simp), rfl, rfl, rfl, trivial⟩ (by repeat constructor) ?_
  · skip
    exact ⟨by omega, rfl⟩
  · rintro i ⟨hi, ho⟩
    refine aSeq ?_
    refine aReg ?_
    refine sp pB ?_
    refine oNil ?_
    refine aSeq ?_
    refine aCondDec rfl (fun c9 => ?_) (fun c9 => ?_)
    · skip
      refine aSkip ?_
      refine aSeq ?_
      refine aBlock ?_
      refine aSeq ?_
      refine aReg ?_
      first | refine sp (pIx es_51) ?_ | (refine obtSN 6 8 rfl rfl (by omega) (fun x10 hx10 => ?_); refine sp (pIs es_51 hx10) ?_) | (refine obtS 6 8 rfl rfl (by omega) (by omega) (fun x10 hx10 => ?_); refine sp (pIs es_51 hx10) ?_) | refine sp (pIo es_51) ?_
      refine sr (rS1 ty_3) ?_
      refine sp pMa ?_
      refine oNil ?_
      refine aSeq ?_
      refine aReg ?_
      refine sp pM ?_
      refine sp pM ?_
      refine sp pB ?_
      refine oNil ?_
      refine aCondNe rfl (fun c14 => ?_) (fun c14 => ?_)
      · skip
        refine aSeq ?_
        refine aReg ?_
        refine sp pM ?_
        refine sp pMa ?_
        refine oNil ?_
        refine aRet ?_
        refine finIs rfl ?_
        show AV.int _ = AV.int _
        congr 2
        first | (rw [← ho, orI_drop hx10, if_pos (by assumption)]; done) | (rw [← ho, List.drop_of_length_le (by omega)]; rfl)
      · skip
        refine aSkip ?_
        refine aReg ?_
        refine sp pAd ?_
        refine sp pM ?_
        refine oNil ?_
        refine ⟨i + 1, ?_, by (try dsimp only); omega, ⟨gInt rfl (by first | rfl | omega | simp), rfl, rfl, rfl, trivial⟩, _, (by repeat constructor)⟩
        exact ⟨by omega, by rw [← ho, orI_drop hx10]; simp_all⟩
    · skip
      refine aExit rfl ?_
      refine aSeq ?_
      refine aReg ?_
      refine sp pM ?_
      refine sp pMa ?_
      refine oNil ?_
      refine aRet ?_
      refine finIs rfl ?_
      show AV.int _ = AV.int _
      congr 2
      first | (rw [← ho, orI_drop hx10, if_pos (by assumption)]; done) | (rw [← ho, List.drop_of_length_le (by omega)]; rfl)
structure Arc where
  f : Int
  t : Int
  c : Int
  deriving DecidableEq, Inhabited
def arcC (a : Arc) : List AV := [.int a.f, .int a.t, .int a.c]
def nodeB (n : Int) : Bool := decide (1 ≤ n) && decide (n ≤ 64)
def arcB (a : Arc) : Bool := nodeB a.f && nodeB a.t && !(a.f == a.t) && decide (1 ≤ a.c) && decide (a.c ≤ 1073741824)
def ltA (x y : Arc) : Prop := x.f < y.f ∨ x.f = y.f ∧ x.t < y.t
instance (x y : Arc) : Decidable (ltA x y) := by unfold ltA; infer_instance
/-- Arcs from a place on, behind the one ahead of it. -/
def arcsB : Option Arc → List Arc → Bool
  | _, [] => true
  | p, a :: l => arcB a && (match p with | none => true | some q => decide (ltA q a)) && arcsB (some a) l
def orderA (a b : Arc) : Int := orI [cmpI a.f b.f, cmpI a.t b.t]
theorem cmpI_ne {a b : Int} : cmpI a b ≠ 0 ↔ a ≠ b := by unfold cmpI; split <;> (try split) <;> omega
theorem cmpI_lt {a b : Int} : cmpI a b < 0 ↔ a < b := by unfold cmpI; split <;> (try split) <;> omega
theorem orderA_lt {a b : Arc} : orderA a b < 0 ↔ ltA a b := by
  simp only [orderA, orI, ltA]
  have h1 := cmpI_ne (a := a.f) (b := b.f)
  have h2 := cmpI_lt (a := a.f) (b := b.f)
  have h3 := cmpI_ne (a := a.t) (b := b.t)
  have h4 := cmpI_lt (a := a.t) (b := b.t)
  split
  · omega
  · split <;> omega
def ordA (p : Option Arc) (e : Arc) : Bool := match p with | none => true | some q => decide (orderA q e < 0)
theorem arcs_step {l : List Arc} {i : Nat} {e : Arc} {p : Option Arc} (h : l[i]? = some e) : arcsB p (l.drop i) = (arcB e && ordA p e && arcsB (some e) (l.drop (i + 1))) := by
  rw [drop_step h]
  cases p with
  | none => rfl
  | some q => simp only [arcsB, ordA, orderA_lt]
theorem arcsB_all : ∀ {l : List Arc} {p : Option Arc}, arcsB p l = true → ∀ e ∈ l, arcB e = true
  | [], _, _, e, he => by simp at he
  | x :: l, p, h, e, he => by
    simp only [arcsB, Bool.and_eq_true] at h
    rcases List.mem_cons.1 he with rfl | he
    · exact h.1.1
    · exact arcsB_all h.2 e he
theorem ltA_trans {x y z : Arc} (h1 : ltA x y) (h2 : ltA y z) : ltA x z := by unfold ltA at *; omega
theorem arcsB_lt : ∀ {l : List Arc} {q : Arc}, arcsB (some q) l = true → (q :: l).Pairwise ltA
  | [], q, _ => by simp
  | x :: l, q, h => by
    simp only [arcsB, Bool.and_eq_true, decide_eq_true_eq] at h
    have ih := arcsB_lt h.2
    refine List.pairwise_cons.2 ⟨fun y hy => ?_, ih⟩
    rcases List.mem_cons.1 hy with rfl | hy
    · exact h.1.2
    · exact ltA_trans h.1.2 ((List.pairwise_cons.1 ih).1 y hy)
theorem arcsB_sorted {l : List Arc} (h : arcsB none l = true) : l.Pairwise ltA := by
  cases l with
  | nil => exact .nil
  | cons x l =>
    simp only [arcsB, Bool.and_eq_true] at h
    exact arcsB_lt h.2
def AOk (a : Arc) : Prop := 1 ≤ a.f ∧ a.f ≤ 64 ∧ 1 ≤ a.t ∧ a.t ≤ 64 ∧ a.f ≠ a.t ∧ 1 ≤ a.c ∧ a.c ≤ 1073741824
theorem AOk.of {a : Arc} (h : arcB a = true) : AOk a := by
  simp only [arcB, nodeB, Bool.and_eq_true, decide_eq_true_eq, Bool.not_eq_true', beq_eq_false_iff_ne] at h
  unfold AOk
  omega
theorem arcs_ok {l : List Arc} (h : arcsB none l = true) : ∀ a ∈ l, AOk a := fun a ha => AOk.of (arcsB_all h a ha)
theorem arcs_uniq {l : List Arc} (h : arcsB none l = true) {x y : Arc} (hx : x ∈ l) (hy : y ∈ l) (e1 : x.f = y.f) (e2 : x.t = y.t) : x = y := Classical.byContradiction fun hne => by
  have hp := List.pairwise_iff_getElem.1 (arcsB_sorted h)
  rcases List.getElem_of_mem hx with ⟨i, hi, rfl⟩
  rcases List.getElem_of_mem hy with ⟨j, hj, rfl⟩
  rcases Nat.lt_trichotomy i j with h | h | h
  · have := hp i j hi hj h; unfold ltA at this; omega
  · subst h; exact hne rfl
  · have := hp j i hj hi h; unfold ltA at this; omega
/- graph.node -/
set_option maxRecDepth 100000 in
set_option maxHeartbeats 400000 in
theorem graph_node {n : Int} : Triple Try.prog 70 [.int n] [] (Is (.v (.bool (nodeB n))) []) := by
  refine triple_of Try.func70 rfl (by kernel_rfl) rfl (by simp) ?_
  refine aSeq ?_
  refine aReg ?_
  refine sp pMa ?_
  refine oNil ?_
  refine aSeq ?_
  refine aReg ?_
  refine sp pM ?_
  refine sp pB ?_
  refine sp pM ?_
  refine oSplitDec 5 rfl (fun c5 => ?_) (fun c5 => ?_)
  · skip
    refine gp pM ?_
    refine gp pB ?_
    refine sp pK ?_
    refine sp pMa ?_
    refine oNil ?_
    refine aRet ?_
    refine finIs rfl ?_
    simp [retOf, nodeB]
    omega
  · skip
    refine gf ?_
    refine gf ?_
    refine sp pK ?_
    refine sp pMa ?_
    refine oNil ?_
    refine aRet ?_
    refine finIs rfl ?_
    simp [retOf, nodeB]
    omega
/- graph.order -/
def graph_order_r1_T : Bool × List (List Nat × List Nat) := (true, [([], []), ([0], [0]), ([], []), ([2], [2]), ([1, 3], [1, 3]), ([], []), ([5], [5]), ([], []), ([7], [7]), ([6, 8, 4], [6, 8]), ([4, 9], [4, 9]), ([10, 9], [10]), ([11, 11, 0, 1, 2, 3, 4, 5, 6, 7, 8, 9, 10, 11], [11])])
def graph_order_r1_B : List Nat := [0, 1, 0, 4, 15, 0, 32, 0, 128, 511, 1023, 2047, 4095]
theorem graph_order_r1_t : Go.Proofs.YtnabkchagjjjnaaW.PrintLast.rtab .any (Go.Proofs.YtnabkchagjjjnaaW.PrintLast.opsOf Try.f71 1) = graph_order_r1_T := by kernel_rfl
theorem graph_order_r1_b : Go.Proofs.YtnabkchagjjjnaaW.PrintLast.waitsOk graph_order_r1_T.2 graph_order_r1_B = true := by kernel_rfl
set_option maxRecDepth 100000 in
set_option maxHeartbeats 400000 in
theorem graph_order {a b : Arc} : Triple Try.prog 71 [.agg (arcC a), .agg (arcC b)] [] (Is (.v (.int .i64 (orderA a b))) []) := by
  refine triple_of Try.func71 rfl (by kernel_rfl) rfl (by simp) ?_
  refine aSeq ?_
  refine aReg ?_
  refine sq ?_
  refine qBox rfl rfl (by decide) rfl rfl (fun b2 => ?_)
  refine sq ?_
  refine qBox rfl rfl (by decide) rfl rfl (fun b3 => ?_)
  refine sp pMa ?_
  refine oNil ?_
  refine aSeq ?_
  refine aDrawT graph_order_r1_t graph_order_r1_b [] 13 #[false, false, false, false, false, false, false, false, false, false, false, false, false] (by kernel_rfl) rfl rfl (fun HT => ?_)
  refine dp HT 0 rfl (pFb fd_90_0) ?_
  refine dr HT 1 rfl (rB1 ty_3) ?_
  refine dp HT 2 rfl (pFb fd_90_0) ?_
  refine dr HT 3 rfl (rB1 ty_3) ?_
  refine dp HT 5 rfl (pFb fd_90_1) ?_
  refine dr HT 6 rfl (rB1 ty_3) ?_
  refine dp HT 7 rfl (pFb fd_90_1) ?_
  refine dr HT 8 rfl (rB1 ty_3) ?_
  refine dGo ?_
  refine e1 HT 4 rfl ?_
  refine cv rfl rfl rfl (lents_refl _) cmp_Compare ?_
  refine e1 HT 9 rfl ?_
  refine cv rfl rfl rfl (lents_refl _) cmp_Compare ?_
  refine e1 HT 10 rfl ?_
  refine qLit (l := [_, _]) rfl rfl (by decide) us_51 ty_3 ze_3 rfl (by decide) (by decide) rfl rfl rfl (fun b15 => ?_)
  refine e1 HT 11 rfl ?_
  refine cv rfl rfl rfl (by repeat (first | exact .nil | refine .cons (.sl (by repeat (first | exact List.mem_cons_self | apply List.mem_cons_of_mem)) (by first | rfl | simp)) ?_ | refine .cons (.same _) ?_)) (cmp_Or [cmpI a.f b.f, cmpI a.t b.t]) ?_
  refine ePure (i := 12) #[true, true, true, true, true, true, true, true, true, true, true, true, true] rfl rfl rfl (HT.any (by kernel_rfl)) (by exact pMa) (by decide) ?_
  refine eE HT ?_
  clear HT
  refine aRet ?_
  refine finIs rfl ?_
  rfl
/- graph.Check -/
def graph_Check_r4_T : Bool × List (List Nat × List Nat) := (true, [([], []), ([0], [0]), ([1], [1]), ([2], [2]), ([3, 2], [3]), ([4], [4]), ([5, 4], [4, 5]), ([6, 4, 4], [4, 6]), ([7, 4], [4, 7]), ([4, 8], [4, 8]), ([9, 7], [9]), ([10], [10]), ([11, 10], [10, 11]), ([10], [10]), ([13, 10], [10, 13]), ([12, 14, 10], [10, 12, 14]), ([10, 15], [10, 15]), ([16, 10], [16]), ([17], [17]), ([18, 17], [17, 18]), ([19, 17], [17, 19]), ([17, 20], [17, 20]), ([21, 17], [21]), ([22], [22]), ([23, 22], [22, 23]), ([24, 22], [22, 24]), ([22, 25], [22, 25]), ([26, 22], [26]), ([27], [27]), ([28, 27], [27, 28]), ([29, 27, 27], [27, 29]), ([30], [30]), ([30], [30]), ([32, 30], [30, 32]), ([31, 33, 30], [30, 31, 33]), ([34, 30], [30, 34]), ([30], [30]), ([35, 36, 30, 30], [30, 35, 36]), ([37, 30], [30, 37]), ([30, 38, 27], [27, 30, 38]), ([27, 39], [27, 39])])
def graph_Check_r4_B : List Nat := [0, 1, 3, 7, 15, 31, 63, 127, 255, 511, 1023, 2047, 4095, 2047, 10239, 32767, 65535, 131071, 262143, 524287, 1048575, 2097151, 4194303, 8388607, 16777215, 33554431, 67108863, 134217727, 268435455, 536870911, 1073741823, 2147483647, 2147483647, 6442450943, 17179869183, 34359738367, 2147483647, 137438953471, 274877906943, 549755813887, 1099511627775]
theorem graph_Check_r4_t : Go.Proofs.YtnabkchagjjjnaaW.PrintLast.rtab .any (Go.Proofs.YtnabkchagjjjnaaW.PrintLast.opsOf Try.f49 4) = graph_Check_r4_T := by kernel_rfl
theorem graph_Check_r4_b : Go.Proofs.YtnabkchagjjjnaaW.PrintLast.waitsOk graph_Check_r4_T.2 graph_Check_r4_B = true := by kernel_rfl
set_option maxRecDepth 100000 in
set_option maxHeartbeats 2000000 in
theorem graph_Check {l : List Arc} (hl : l.length ≤ 1000000 := by omega) : Triple Try.prog 49 [.sl 3 (l.map arcC)] [] (Is (.v (.int .i64 (if arcsB none l then 0 else 1))) []) := by
  refine triple_of Try.func49 rfl (by kernel_rfl) rfl (by simp) ?_
  refine aSeq ?_
  refine aReg ?_
  refine sp pMa ?_
  refine oNil ?_
  refine aSeq ?_
  refine aSeq ?_
  refine aReg ?_
  refine sp pM ?_
  refine sp (by first | exact pLm sl_55 | exact pLs sl_55) ?_
  refine sp pM ?_
  refine oNil ?_
  refine aBlock ?_
  refine loopF (α := Nat) (kept := [(0, _), (5, _), (6, _)]) (fun i => i ≤ l.length ∧ arcsB none l = arcsB (prevA l i) (l.drop i)) (fun i => [(7, .int i)]) (fun i => []) (fun i => l.length - i) 0 ?_ ⟨gInt rfl (by first | rfl | omega | simp), rfl, rfl, rfl, trivial⟩ (by repeat constructor) ?_
  · skip
    exact ⟨by omega, rfl⟩
  · rintro i ⟨hi, hv⟩
    refine aSeq ?_
    refine aReg ?_
    refine sp pB ?_
    refine oNil ?_
    refine aSeq ?_
    refine aCondDec rfl (fun c8 => ?_) (fun c8 => ?_)
    · skip
      refine aSkip ?_
      refine aSeq ?_
      refine aBlock ?_
      refine aSeq ?_
      refine aReg ?_
      refine sp pM ?_
      first | refine sp (pIx es_55) ?_ | (refine obtSN 5 7 rfl rfl (by omega) (fun x10 hx10 => ?_); refine sp (pIs es_55 hx10) ?_) | (refine obtS 5 7 rfl rfl (by omega) (by omega) (fun x10 hx10 => ?_); refine sp (pIs es_55 hx10) ?_) | refine sp (pIo es_55) ?_
      refine sr (by first | exact rSW ty_90 rfl | exact rSA ty_90) ?_
      refine sq ?_
      refine qAlloc rfl rfl (by decide) ze_90 rfl (fun b4 => ?_)
      refine sp pMa ?_
      refine sa ?_
      refine oStW rfl rfl rfl rfl (by repeat constructor) ty_90 ?_
      refine oNil ?_
      refine aSeq ?_
      have hprev : 0 < i → ∃ b, l[((i : Int) - 1).toNat]? = some b := fun h => ⟨_, List.getElem?_eq_getElem (by omega)⟩
      refine aDrawT graph_Check_r4_t graph_Check_r4_b [] 41 #[false, false, false, false, false, false, false, false, false, false, false, false, false, false, false, false, false, false, false, false, false, false, false, false, false, false, false, false, false, false, false, false, false, false, false, false, false, false, false, false, false] (by kernel_rfl) rfl rfl (fun HT => ?_)
      refine dp HT 0 rfl (pFb fd_90_0) ?_
      refine dr HT 1 rfl (rB1 ty_3) ?_
      refine dGo ?_
      refine e1 HT 2 rfl ?_
      refine cv rfl rfl rfl (lents_refl _) graph_node ?_
      refine ef HT 3 rfl pNo ?_
      refine ef HT 4 rfl pM ?_
      refine eSplitNot 16 rfl (fun c16 => ?_) (fun c16 => ?_)
      · skip
        refine eS HT 5 rfl ?_
        refine eS HT 6 rfl ?_
        refine eS HT 7 rfl ?_
        refine eS HT 8 rfl ?_
        refine ef HT 9 rfl pK ?_
        refine ef HT 10 rfl pM ?_
        refine eS HT 11 rfl ?_
        refine eS HT 12 rfl ?_
        refine eS HT 13 rfl ?_
        refine eS HT 14 rfl ?_
        refine eS HT 15 rfl ?_
        refine ef HT 16 rfl pK ?_
        refine ef HT 17 rfl pM ?_
        refine eS HT 18 rfl ?_
        refine eS HT 19 rfl ?_
        refine eS HT 20 rfl ?_
        refine ef HT 21 rfl pK ?_
        refine ef HT 22 rfl pM ?_
        refine eS HT 23 rfl ?_
        refine eS HT 24 rfl ?_
        refine eS HT 25 rfl ?_
        refine ef HT 26 rfl pK ?_
        refine ef HT 27 rfl pM ?_
        refine eS HT 28 rfl ?_
        refine eS HT 29 rfl ?_
        refine eS HT 30 rfl ?_
        refine eS HT 31 rfl ?_
        refine eS HT 32 rfl ?_
        refine eS HT 33 rfl ?_
        refine eS HT 34 rfl ?_
        refine eS HT 35 rfl ?_
        refine eS HT 36 rfl ?_
        refine eS HT 37 rfl ?_
        refine eS HT 38 rfl ?_
        refine eS HT 39 rfl ?_
        refine ef HT 40 rfl pK ?_
        refine eE HT ?_
        clear HT
        refine aCondT rfl ?_
        refine aSeq ?_
        refine aReg ?_
        refine sp pMa ?_
        refine oNil ?_
        refine aRet ?_
        refine finIs rfl ?_
        have hs := arcs_step (p := prevA l i) hx10
        show AV.int 1 = AV.int _
        rw [hv, hs]
        by_cases h0 : i = 0 <;> simp_all [arcB, ordA, prevA]
        all_goals (intros; omega)
      · skip
        refine epG HT 5 rfl (pFb fd_90_1) ?_
        refine erG HT 6 rfl (rB1 ty_3) ?_
        refine e1G HT 7 rfl ?_
        refine cv rfl rfl rfl (lents_refl _) graph_node ?_
        refine efG HT 8 rfl pNo ?_
        refine ef HT 9 rfl pK ?_
        refine ef HT 10 rfl pM ?_
        refine eSplitNot 22 rfl (fun c22 => ?_) (fun c22 => ?_)
        · skip
          refine eS HT 11 rfl ?_
          refine eS HT 12 rfl ?_
          refine eS HT 13 rfl ?_
          refine eS HT 14 rfl ?_
          refine eS HT 15 rfl ?_
          refine ef HT 16 rfl pK ?_
          refine ef HT 17 rfl pM ?_
          refine eS HT 18 rfl ?_
          refine eS HT 19 rfl ?_
          refine eS HT 20 rfl ?_
          refine ef HT 21 rfl pK ?_
          refine ef HT 22 rfl pM ?_
          refine eS HT 23 rfl ?_
          refine eS HT 24 rfl ?_
          refine eS HT 25 rfl ?_
          refine ef HT 26 rfl pK ?_
          refine ef HT 27 rfl pM ?_
          refine eS HT 28 rfl ?_
          refine eS HT 29 rfl ?_
          refine eS HT 30 rfl ?_
          refine eS HT 31 rfl ?_
          refine eS HT 32 rfl ?_
          refine eS HT 33 rfl ?_
          refine eS HT 34 rfl ?_
          refine eS HT 35 rfl ?_
          refine eS HT 36 rfl ?_
          refine eS HT 37 rfl ?_
          refine eS HT 38 rfl ?_
          refine eS HT 39 rfl ?_
          refine ef HT 40 rfl pK ?_
          refine eE HT ?_
          clear HT
          refine aCondT rfl ?_
          refine aSeq ?_
          refine aReg ?_
          refine sp pMa ?_
          refine oNil ?_
          refine aRet ?_
          refine finIs rfl ?_
          have hs := arcs_step (p := prevA l i) hx10
          show AV.int 1 = AV.int _
          rw [hv, hs]
          by_cases h0 : i = 0 <;> simp_all [arcB, ordA, prevA]
          all_goals (intros; omega)
        · skip
          refine epG HT 11 rfl (pFb fd_90_0) ?_
          refine erG HT 12 rfl (rB1 ty_3) ?_
          refine epG HT 13 rfl (pFb fd_90_1) ?_
          refine erG HT 14 rfl (rB1 ty_3) ?_
          refine epG HT 15 rfl pB ?_
          refine ef HT 16 rfl pK ?_
          refine ef HT 17 rfl pM ?_
          refine eSplitEq 29 rfl (fun c29 => ?_) (fun c29 => ?_)
          · skip
            refine eS HT 18 rfl ?_
            refine eS HT 19 rfl ?_
            refine eS HT 20 rfl ?_
            refine ef HT 21 rfl pK ?_
            refine ef HT 22 rfl pM ?_
            refine eS HT 23 rfl ?_
            refine eS HT 24 rfl ?_
            refine eS HT 25 rfl ?_
            refine ef HT 26 rfl pK ?_
            refine ef HT 27 rfl pM ?_
            refine eS HT 28 rfl ?_
            refine eS HT 29 rfl ?_
            refine eS HT 30 rfl ?_
            refine eS HT 31 rfl ?_
            refine eS HT 32 rfl ?_
            refine eS HT 33 rfl ?_
            refine eS HT 34 rfl ?_
            refine eS HT 35 rfl ?_
            refine eS HT 36 rfl ?_
            refine eS HT 37 rfl ?_
            refine eS HT 38 rfl ?_
            refine eS HT 39 rfl ?_
            refine ef HT 40 rfl pK ?_
            refine eE HT ?_
            clear HT
            refine aCondT rfl ?_
            refine aSeq ?_
            refine aReg ?_
            refine sp pMa ?_
            refine oNil ?_
            refine aRet ?_
            refine finIs rfl ?_
            have hs := arcs_step (p := prevA l i) hx10
            show AV.int 1 = AV.int _
            rw [hv, hs]
            by_cases h0 : i = 0 <;> simp_all [arcB, ordA, prevA]
            all_goals (intros; omega)
          · skip
            refine epG HT 18 rfl (pFb fd_90_2) ?_
            refine erG HT 19 rfl (rB1 ty_3) ?_
            refine epG HT 20 rfl pB ?_
            refine ef HT 21 rfl pK ?_
            refine ef HT 22 rfl pM ?_
            refine eSplitDec 34 rfl (fun c34 => ?_) (fun c34 => ?_)
            · skip
              refine eS HT 23 rfl ?_
              refine eS HT 24 rfl ?_
              refine eS HT 25 rfl ?_
              refine ef HT 26 rfl pK ?_
              refine ef HT 27 rfl pM ?_
              refine eS HT 28 rfl ?_
              refine eS HT 29 rfl ?_
              refine eS HT 30 rfl ?_
              refine eS HT 31 rfl ?_
              refine eS HT 32 rfl ?_
              refine eS HT 33 rfl ?_
              refine eS HT 34 rfl ?_
              refine eS HT 35 rfl ?_
              refine eS HT 36 rfl ?_
              refine eS HT 37 rfl ?_
              refine eS HT 38 rfl ?_
              refine eS HT 39 rfl ?_
              refine ef HT 40 rfl pK ?_
              refine eE HT ?_
              clear HT
              refine aCondT rfl ?_
              refine aSeq ?_
              refine aReg ?_
              refine sp pMa ?_
              refine oNil ?_
              refine aRet ?_
              refine finIs rfl ?_
              have hs := arcs_step (p := prevA l i) hx10
              show AV.int 1 = AV.int _
              rw [hv, hs]
              by_cases h0 : i = 0 <;> simp_all [arcB, ordA, prevA]
              all_goals (intros; omega)
            · skip
              refine epG HT 23 rfl (pFb fd_90_2) ?_
              refine erG HT 24 rfl (rB1 ty_3) ?_
              refine epG HT 25 rfl pB ?_
              refine ef HT 26 rfl pK ?_
              refine ef HT 27 rfl pM ?_
              refine eSplitDec 39 rfl (fun c39 => ?_) (fun c39 => ?_)
              · skip
                refine eS HT 28 rfl ?_
                refine eS HT 29 rfl ?_
                refine eS HT 30 rfl ?_
                refine eS HT 31 rfl ?_
                refine eS HT 32 rfl ?_
                refine eS HT 33 rfl ?_
                refine eS HT 34 rfl ?_
                refine eS HT 35 rfl ?_
                refine eS HT 36 rfl ?_
                refine eS HT 37 rfl ?_
                refine eS HT 38 rfl ?_
                refine eS HT 39 rfl ?_
                refine ef HT 40 rfl pK ?_
                refine eE HT ?_
                clear HT
                refine aCondT rfl ?_
                refine aSeq ?_
                refine aReg ?_
                refine sp pMa ?_
                refine oNil ?_
                refine aRet ?_
                refine finIs rfl ?_
                have hs := arcs_step (p := prevA l i) hx10
                show AV.int 1 = AV.int _
                rw [hv, hs]
                by_cases h0 : i = 0 <;> simp_all [arcB, ordA, prevA]
                all_goals (intros; omega)
              · skip
                refine epG HT 28 rfl pM ?_
                refine epG HT 29 rfl pB ?_
                refine epG HT 30 rfl pM ?_
                refine eSplitDec 42 rfl (fun c42 => ?_) (fun c42 => ?_)
                · skip
                  refine epG HT 31 rfl pM ?_
                  refine epG HT 32 rfl pM ?_
                  refine epG HT 33 rfl pSu ?_
                  obtain ⟨b, hb⟩ := hprev (by omega)
                  have hb' : l[i - 1]? = some b := by rw [← hb]; congr 1; omega
                  first | refine epG HT 34 rfl (pIx es_55) ?_ | (refine obtEN 43 45 rfl rfl (by omega) (fun x46 hx46 => ?_); refine epG HT 34 rfl (pIs es_55 hx46) ?_) | (refine obtE 43 45 rfl rfl (by omega) (by omega) (fun x46 hx46 => ?_); refine epG HT 34 rfl (pIs es_55 hx46) ?_) | refine epG HT 34 rfl (pIo es_55) ?_
                  refine erG HT 35 rfl (by first | exact rSW ty_90 rfl | exact rSA ty_90) ?_
                  refine erG HT 36 rfl (by first | exact rBWa ty_90 | exact rBW ty_90 | exact rBA ty_90) ?_
                  refine e1G HT 37 rfl ?_
                  refine cv rfl rfl rfl (lents_refl _) graph_order ?_
                  refine efG HT 38 rfl pB ?_
                  refine efG HT 39 rfl pK ?_
                  refine ef HT 40 rfl pK ?_
                  refine eE HT ?_
                  clear HT
                  refine aCondDec rfl (fun c52 => ?_) (fun c52 => ?_)
                  · skip
                    refine aSeq ?_
                    refine aReg ?_
                    refine sp pMa ?_
                    refine oNil ?_
                    refine aRet ?_
                    refine finIs rfl ?_
                    have hs := arcs_step (p := prevA l i) hx10
                    show AV.int 1 = AV.int _
                    rw [hv, hs]
                    by_cases h0 : i = 0 <;> simp_all [arcB, ordA, prevA]
                    all_goals (intros; omega)
                  · skip
                    refine aSkip ?_
                    refine aReg ?_
                    refine sp pAd ?_
                    refine sp pM ?_
                    refine oNil ?_
                    refine ⟨i + 1, ?_, by (try dsimp only); omega, ⟨gInt rfl (by first | rfl | omega | simp), rfl, rfl, rfl, trivial⟩, _, (by repeat constructor)⟩
                    have hs := arcs_step (p := prevA l i) hx10
                    refine ⟨by omega, ?_⟩
                    rw [hv, hs, prevA_succ hx10]
                    by_cases h0 : i = 0 <;> simp_all [arcB, ordA, prevA]
                    all_goals (intros; omega)
                · skip
                  refine eS HT 31 rfl ?_
                  refine eS HT 32 rfl ?_
                  refine eS HT 33 rfl ?_
                  refine eS HT 34 rfl ?_
                  refine eS HT 35 rfl ?_
                  refine eS HT 36 rfl ?_
                  refine eS HT 37 rfl ?_
                  refine eS HT 38 rfl ?_
                  refine efG HT 39 rfl pK ?_
                  refine ef HT 40 rfl pK ?_
                  refine eE HT ?_
                  clear HT
                  refine aCondF rfl ?_
                  refine aSkip ?_
                  refine aReg ?_
                  refine sp pAd ?_
                  refine sp pM ?_
                  refine oNil ?_
                  refine ⟨i + 1, ?_, by (try dsimp only); omega, ⟨gInt rfl (by first | rfl | omega | simp), rfl, rfl, rfl, trivial⟩, _, (by repeat constructor)⟩
                  have hs := arcs_step (p := prevA l i) hx10
                  refine ⟨by omega, ?_⟩
                  rw [hv, hs, prevA_succ hx10]
                  by_cases h0 : i = 0 <;> simp_all [arcB, ordA, prevA]
                  all_goals (intros; omega)
    · skip
      refine aExit rfl ?_
      refine aSeq ?_
      refine aReg ?_
      refine sp pMa ?_
      refine oNil ?_
      refine aRet ?_
      refine finIs rfl ?_
      show AV.int 0 = AV.int _
      rw [hv, List.drop_of_length_le (by omega)]
      rfl
/- waymarkref24.May -/
def ref24_May_r7_T : Bool × List (List Nat × List Nat) := (true, [([], []), ([0], [0]), ([1], [1]), ([2], [2]), ([2], [2]), ([4, 2], [2, 4]), ([3, 5, 2], [2, 3, 5]), ([6, 2], [2, 6]), ([7, 2], [2, 7]), ([2], [2]), ([9, 2], [2, 9]), ([8, 10, 2], [2, 8, 10]), ([11, 2, 2], [2, 11]), ([12], [12]), ([12], [12]), ([14, 12], [12, 14]), ([13, 15, 12], [12, 13, 15]), ([16, 12], [12, 16]), ([17, 12], [12, 17]), ([12], [12]), ([19, 12], [12, 19]), ([18, 20, 12], [12, 18, 20]), ([21, 12, 12], [12, 21]), ([22], [22]), ([22], [22]), ([24, 22], [22, 24]), ([23, 25, 22], [22, 23, 25]), ([26, 22], [22, 26]), ([27, 22], [22, 27]), ([22], [22]), ([29, 22], [22, 29]), ([28, 30, 22], [22, 28, 30]), ([22, 31, 12], [12, 22, 31]), ([12, 32, 2], [2, 12, 32]), ([2, 33], [2, 33])])
def ref24_May_r7_B : List Nat := [0, 1, 3, 7, 7, 23, 63, 127, 255, 7, 519, 2047, 4095, 8191, 8191, 24575, 65535, 131071, 262143, 8191, 532479, 2097151, 4194303, 8388607, 8388607, 25165823, 67108863, 134217727, 268435455, 8388607, 545259519, 2147483647, 4294967295, 8589934591, 17179869183]
theorem ref24_May_r7_t : Go.Proofs.YtnabkchagjjjnaaW.PrintLast.rtab .any (Go.Proofs.YtnabkchagjjjnaaW.PrintLast.opsOf Try.f26 7) = ref24_May_r7_T := by kernel_rfl
theorem ref24_May_r7_b : Go.Proofs.YtnabkchagjjjnaaW.PrintLast.waitsOk ref24_May_r7_T.2 ref24_May_r7_B = true := by kernel_rfl
set_option maxRecDepth 100000 in
set_option maxHeartbeats 2000000 in
theorem ref24_May {l : List Arc} (hl : l.length ≤ 1000000 := by omega) : Triple Try.prog 26 [.sl 3 (l.map arcC)] [] (Is (.v (.bool (arcsB none l))) []) := by
  refine triple_of Try.func26 rfl (by kernel_rfl) rfl (by simp) ?_
  refine aSeq ?_
  refine aReg ?_
  refine sp pMa ?_
  refine oNil ?_
  refine aSeq ?_
  refine aSeq ?_
  refine aReg ?_
  refine sp pMa ?_
  refine oNil ?_
  refine aBlock ?_
  refine loopF (α := Nat) (kept := [(0, _)]) (fun i => i ≤ l.length ∧ arcsB none l = arcsB (prevA l i) (l.drop i)) (fun i => [(3, .int i)]) (fun i => []) (fun i => l.length - i) 0 ?_ ⟨gInt rfl (by first | rfl | omega | simp), rfl, trivial⟩ (by repeat constructor) ?_
  · skip
    exact ⟨by omega, rfl⟩
  · rintro i ⟨hi, hv⟩
    refine aSeq ?_
    refine aSeq ?_
    refine aReg ?_
    refine sp pM ?_
    refine sp pM ?_
    refine sp (by first | exact pLm sl_55 | exact pLs sl_55) ?_
    refine sp pB ?_
    refine oNil ?_
    refine aCondDec rfl (fun c8 => ?_) (fun c8 => ?_)
    · skip
      refine aSkip ?_
      refine aSeq ?_
      refine aBlock ?_
      refine aSeq ?_
      refine aReg ?_
      refine sp pM ?_
      refine sp pM ?_
      first | refine sp (pIx es_55) ?_ | (refine obtSN 11 12 rfl rfl (by omega) (fun x13 hx13 => ?_); refine sp (pIs es_55 hx13) ?_) | (refine obtS 11 12 rfl rfl (by omega) (by omega) (fun x13 hx13 => ?_); refine sp (pIs es_55 hx13) ?_) | refine sp (pIo es_55) ?_
      refine sr (by first | exact rSW ty_90 rfl | exact rSA ty_90) ?_
      refine sq ?_
      refine qAlloc rfl rfl (by decide) ze_90 rfl (fun b4 => ?_)
      refine sa ?_
      refine oStW rfl rfl rfl rfl (by repeat constructor) ty_90 ?_
      refine oNil ?_
      refine aSeq ?_
      refine aSeq ?_
      refine aReg ?_
      refine sp (pFb fd_90_0) ?_
      refine sr (rB1 ty_3) ?_
      refine sp pB ?_
      refine sp pM ?_
      refine oSplitDec 18 rfl (fun c18 => ?_) (fun c18 => ?_)
      · skip
        refine gf ?_
        refine gf ?_
        refine gf ?_
        refine sp pK ?_
        refine sp pM ?_
        refine gf ?_
        refine gf ?_
        refine gf ?_
        refine sp pK ?_
        refine sp pM ?_
        refine gf ?_
        refine gf ?_
        refine gf ?_
        refine sp pK ?_
        refine sp pM ?_
        refine gf ?_
        refine gf ?_
        refine gf ?_
        refine gf ?_
        refine gf ?_
        refine sp pK ?_
        refine sp pM ?_
        refine gf ?_
        refine gf ?_
        refine gf ?_
        refine sp pK ?_
        refine sp pM ?_
        refine gf ?_
        refine gf ?_
        refine gf ?_
        refine sp pK ?_
        refine oNil ?_
        refine aCondT rfl ?_
        refine aSeq ?_
        refine aReg ?_
        refine sp pMa ?_
        refine oNil ?_
        refine aRet ?_
        refine finIs rfl ?_
        have hs := arcs_step (p := prevA l i) hx13
        show AV.v (.bool false) = AV.v (.bool (arcsB none l))
        rw [hv, hs]
        by_cases h0 : i = 0 <;> simp_all [arcB, nodeB, ordA, prevA, orderA_lt, ltA]
        all_goals (intros; omega)
      · skip
        refine gp (pFb fd_90_0) ?_
        refine gr (rB1 ty_3) ?_
        refine gp pB ?_
        refine sp pK ?_
        refine sp pM ?_
        refine oSplitDec 23 rfl (fun c23 => ?_) (fun c23 => ?_)
        · skip
          refine gf ?_
          refine gf ?_
          refine gf ?_
          refine sp pK ?_
          refine sp pM ?_
          refine gf ?_
          refine gf ?_
          refine gf ?_
          refine sp pK ?_
          refine sp pM ?_
          refine gf ?_
          refine gf ?_
          refine gf ?_
          refine gf ?_
          refine gf ?_
          refine sp pK ?_
          refine sp pM ?_
          refine gf ?_
          refine gf ?_
          refine gf ?_
          refine sp pK ?_
          refine sp pM ?_
          refine gf ?_
          refine gf ?_
          refine gf ?_
          refine sp pK ?_
          refine oNil ?_
          refine aCondT rfl ?_
          refine aSeq ?_
          refine aReg ?_
          refine sp pMa ?_
          refine oNil ?_
          refine aRet ?_
          refine finIs rfl ?_
          have hs := arcs_step (p := prevA l i) hx13
          show AV.v (.bool false) = AV.v (.bool (arcsB none l))
          rw [hv, hs]
          by_cases h0 : i = 0 <;> simp_all [arcB, nodeB, ordA, prevA, orderA_lt, ltA]
          all_goals (intros; omega)
        · skip
          refine gp (pFb fd_90_1) ?_
          refine gr (rB1 ty_3) ?_
          refine gp pB ?_
          refine sp pK ?_
          refine sp pM ?_
          refine oSplitDec 28 rfl (fun c28 => ?_) (fun c28 => ?_)
          · skip
            refine gf ?_
            refine gf ?_
            refine gf ?_
            refine sp pK ?_
            refine sp pM ?_
            refine gf ?_
            refine gf ?_
            refine gf ?_
            refine gf ?_
            refine gf ?_
            refine sp pK ?_
            refine sp pM ?_
            refine gf ?_
            refine gf ?_
            refine gf ?_
            refine sp pK ?_
            refine sp pM ?_
            refine gf ?_
            refine gf ?_
            refine gf ?_
            refine sp pK ?_
            refine oNil ?_
            refine aCondT rfl ?_
            refine aSeq ?_
            refine aReg ?_
            refine sp pMa ?_
            refine oNil ?_
            refine aRet ?_
            refine finIs rfl ?_
            have hs := arcs_step (p := prevA l i) hx13
            show AV.v (.bool false) = AV.v (.bool (arcsB none l))
            rw [hv, hs]
            by_cases h0 : i = 0 <;> simp_all [arcB, nodeB, ordA, prevA, orderA_lt, ltA]
            all_goals (intros; omega)
          · skip
            refine gp (pFb fd_90_1) ?_
            refine gr (rB1 ty_3) ?_
            refine gp pB ?_
            refine sp pK ?_
            refine sp pM ?_
            refine oSplitDec 33 rfl (fun c33 => ?_) (fun c33 => ?_)
            · skip
              refine gf ?_
              refine gf ?_
              refine gf ?_
              refine gf ?_
              refine gf ?_
              refine sp pK ?_
              refine sp pM ?_
              refine gf ?_
              refine gf ?_
              refine gf ?_
              refine sp pK ?_
              refine sp pM ?_
              refine gf ?_
              refine gf ?_
              refine gf ?_
              refine sp pK ?_
              refine oNil ?_
              refine aCondT rfl ?_
              refine aSeq ?_
              refine aReg ?_
              refine sp pMa ?_
              refine oNil ?_
              refine aRet ?_
              refine finIs rfl ?_
              have hs := arcs_step (p := prevA l i) hx13
              show AV.v (.bool false) = AV.v (.bool (arcsB none l))
              rw [hv, hs]
              by_cases h0 : i = 0 <;> simp_all [arcB, nodeB, ordA, prevA, orderA_lt, ltA]
              all_goals (intros; omega)
            · skip
              refine gp (pFb fd_90_0) ?_
              refine gr (rB1 ty_3) ?_
              refine gp (pFb fd_90_1) ?_
              refine gr (rB1 ty_3) ?_
              refine gp pB ?_
              refine sp pK ?_
              refine sp pM ?_
              refine oSplitEq 40 rfl (fun c40 => ?_) (fun c40 => ?_)
              · skip
                refine gf ?_
                refine gf ?_
                refine gf ?_
                refine sp pK ?_
                refine sp pM ?_
                refine gf ?_
                refine gf ?_
                refine gf ?_
                refine sp pK ?_
                refine oNil ?_
                refine aCondT rfl ?_
                refine aSeq ?_
                refine aReg ?_
                refine sp pMa ?_
                refine oNil ?_
                refine aRet ?_
                refine finIs rfl ?_
                have hs := arcs_step (p := prevA l i) hx13
                show AV.v (.bool false) = AV.v (.bool (arcsB none l))
                rw [hv, hs]
                by_cases h0 : i = 0 <;> simp_all [arcB, nodeB, ordA, prevA, orderA_lt, ltA]
                all_goals (intros; omega)
              · skip
                refine gp (pFb fd_90_2) ?_
                refine gr (rB1 ty_3) ?_
                refine gp pB ?_
                refine sp pK ?_
                refine sp pM ?_
                refine oSplitDec 45 rfl (fun c45 => ?_) (fun c45 => ?_)
                · skip
                  refine gf ?_
                  refine gf ?_
                  refine gf ?_
                  refine sp pK ?_
                  refine oNil ?_
                  refine aCondT rfl ?_
                  refine aSeq ?_
                  refine aReg ?_
                  refine sp pMa ?_
                  refine oNil ?_
                  refine aRet ?_
                  refine finIs rfl ?_
                  have hs := arcs_step (p := prevA l i) hx13
                  show AV.v (.bool false) = AV.v (.bool (arcsB none l))
                  rw [hv, hs]
                  by_cases h0 : i = 0 <;> simp_all [arcB, nodeB, ordA, prevA, orderA_lt, ltA]
                  all_goals (intros; omega)
                · skip
                  refine gp (pFb fd_90_2) ?_
                  refine gr (rB1 ty_3) ?_
                  refine gp pB ?_
                  refine sp pK ?_
                  refine oNil ?_
                  refine aCondDec rfl (fun c49 => ?_) (fun c49 => ?_)
                  · skip
                    refine aSeq ?_
                    refine aReg ?_
                    refine sp pMa ?_
                    refine oNil ?_
                    refine aRet ?_
                    refine finIs rfl ?_
                    have hs := arcs_step (p := prevA l i) hx13
                    show AV.v (.bool false) = AV.v (.bool (arcsB none l))
                    rw [hv, hs]
                    by_cases h0 : i = 0 <;> simp_all [arcB, nodeB, ordA, prevA, orderA_lt, ltA]
                    all_goals (intros; omega)
                  · skip
                    refine aSkip ?_
                    refine aSeq ?_
                    have hprev : 0 < i → ∃ b, l[((i : Int) - 1).toNat]? = some b := fun h => ⟨_, List.getElem?_eq_getElem (by omega)⟩
                    refine aDrawT ref24_May_r7_t ref24_May_r7_b [] 35 #[false, false, false, false, false, false, false, false, false, false, false, false, false, false, false, false, false, false, false, false, false, false, false, false, false, false, false, false, false, false, false, false, false, false, false] (by kernel_rfl) rfl rfl (fun HT => ?_)
                    refine dp HT 0 rfl pM ?_
                    refine dp HT 1 rfl pB ?_
                    refine dp HT 2 rfl pM ?_
                    refine dSplitDec 52 rfl (fun c52 => ?_) (fun c52 => ?_)
                    · skip
                      refine dpG HT 3 rfl pM ?_
                      refine dpG HT 4 rfl pM ?_
                      refine dpG HT 5 rfl pSu ?_
                      obtain ⟨b, hb⟩ := hprev (by omega)
                      have hb' : l[i - 1]? = some b := by rw [← hb]; congr 1; omega
                      first | refine dpG HT 6 rfl (pIx es_55) ?_ | (refine obtDN 53 55 rfl rfl (by omega) (fun x56 hx56 => ?_); refine dpG HT 6 rfl (pIs es_55 hx56) ?_) | (refine obtD 53 55 rfl rfl (by omega) (by omega) (fun x56 hx56 => ?_); refine dpG HT 6 rfl (pIs es_55 hx56) ?_) | refine dpG HT 6 rfl (pIo es_55) ?_
                      refine dpG HT 7 rfl (pFs fd_90_0) ?_
                      refine drG HT 8 rfl (rS1 ty_3) ?_
                      refine dpG HT 9 rfl (pFb fd_90_0) ?_
                      refine drG HT 10 rfl (rB1 ty_3) ?_
                      refine dpG HT 11 rfl pB ?_
                      refine dpG HT 12 rfl pM ?_
                      refine dSplitDec 62 rfl (fun c62 => ?_) (fun c62 => ?_)
                      · skip
                        refine dS HT 13 rfl ?_
                        refine dS HT 14 rfl ?_
                        refine dS HT 15 rfl ?_
                        refine dS HT 16 rfl ?_
                        refine dS HT 17 rfl ?_
                        refine dS HT 18 rfl ?_
                        refine dS HT 19 rfl ?_
                        refine dS HT 20 rfl ?_
                        refine dS HT 21 rfl ?_
                        refine dS HT 22 rfl ?_
                        refine dS HT 23 rfl ?_
                        refine dS HT 24 rfl ?_
                        refine dS HT 25 rfl ?_
                        refine dS HT 26 rfl ?_
                        refine dS HT 27 rfl ?_
                        refine dS HT 28 rfl ?_
                        refine dS HT 29 rfl ?_
                        refine dS HT 30 rfl ?_
                        refine dS HT 31 rfl ?_
                        refine dS HT 32 rfl ?_
                        refine dpG HT 33 rfl pK ?_
                        refine dp HT 34 rfl pK ?_
                        refine dE HT ?_
                        clear HT
                        refine aCondT rfl ?_
                        refine aSeq ?_
                        refine aReg ?_
                        refine sp pMa ?_
                        refine oNil ?_
                        refine aRet ?_
                        refine finIs rfl ?_
                        have hs := arcs_step (p := prevA l i) hx13
                        show AV.v (.bool false) = AV.v (.bool (arcsB none l))
                        rw [hv, hs]
                        by_cases h0 : i = 0 <;> simp_all [arcB, nodeB, ordA, prevA, orderA_lt, ltA]
                        all_goals (intros; omega)
                      · skip
                        refine dpG HT 13 rfl pM ?_
                        refine dpG HT 14 rfl pM ?_
                        refine dpG HT 15 rfl pSu ?_
                        first | refine dpG HT 16 rfl (pIx es_55) ?_ | (refine obtDN 63 65 rfl rfl (by omega) (fun x66 hx66 => ?_); refine dpG HT 16 rfl (pIs es_55 hx66) ?_) | (refine obtD 63 65 rfl rfl (by omega) (by omega) (fun x66 hx66 => ?_); refine dpG HT 16 rfl (pIs es_55 hx66) ?_) | refine dpG HT 16 rfl (pIo es_55) ?_
                        refine dpG HT 17 rfl (pFs fd_90_0) ?_
                        refine drG HT 18 rfl (rS1 ty_3) ?_
                        refine dpG HT 19 rfl (pFb fd_90_0) ?_
                        refine drG HT 20 rfl (rB1 ty_3) ?_
                        refine dpG HT 21 rfl pB ?_
                        refine dpG HT 22 rfl pM ?_
                        refine dSplitEq 72 rfl (fun c72 => ?_) (fun c72 => ?_)
                        · skip
                          refine dpG HT 23 rfl pM ?_
                          refine dpG HT 24 rfl pM ?_
                          refine dpG HT 25 rfl pSu ?_
                          first | refine dpG HT 26 rfl (pIx es_55) ?_ | (refine obtDN 73 75 rfl rfl (by omega) (fun x76 hx76 => ?_); refine dpG HT 26 rfl (pIs es_55 hx76) ?_) | (refine obtD 73 75 rfl rfl (by omega) (by omega) (fun x76 hx76 => ?_); refine dpG HT 26 rfl (pIs es_55 hx76) ?_) | refine dpG HT 26 rfl (pIo es_55) ?_
                          refine dpG HT 27 rfl (pFs fd_90_1) ?_
                          refine drG HT 28 rfl (rS1 ty_3) ?_
                          refine dpG HT 29 rfl (pFb fd_90_1) ?_
                          refine drG HT 30 rfl (rB1 ty_3) ?_
                          refine dpG HT 31 rfl pB ?_
                          refine dpG HT 32 rfl pK ?_
                          refine dpG HT 33 rfl pK ?_
                          refine dp HT 34 rfl pK ?_
                          refine dE HT ?_
                          clear HT
                          refine aCondDec rfl (fun c84 => ?_) (fun c84 => ?_)
                          · skip
                            refine aSeq ?_
                            refine aReg ?_
                            refine sp pMa ?_
                            refine oNil ?_
                            refine aRet ?_
                            refine finIs rfl ?_
                            have hs := arcs_step (p := prevA l i) hx13
                            show AV.v (.bool false) = AV.v (.bool (arcsB none l))
                            rw [hv, hs]
                            by_cases h0 : i = 0 <;> simp_all [arcB, nodeB, ordA, prevA, orderA_lt, ltA]
                            all_goals (intros; omega)
                          · skip
                            refine aSkip ?_
                            refine aReg ?_
                            refine sp pM ?_
                            refine sp pAd ?_
                            refine sp pMa ?_
                            refine oNil ?_
                            refine ⟨i + 1, ?_, by (try dsimp only); omega, ⟨gInt rfl (by first | rfl | omega | simp), rfl, trivial⟩, _, (by repeat constructor)⟩
                            have hs := arcs_step (p := prevA l i) hx13
                            refine ⟨by omega, ?_⟩
                            rw [hv, hs, prevA_succ hx13]
                            by_cases h0 : i = 0 <;> simp_all [arcB, nodeB, ordA, prevA, orderA_lt, ltA]
                            all_goals (intros; omega)
                        · skip
                          refine dS HT 23 rfl ?_
                          refine dS HT 24 rfl ?_
                          refine dS HT 25 rfl ?_
                          refine dS HT 26 rfl ?_
                          refine dS HT 27 rfl ?_
                          refine dS HT 28 rfl ?_
                          refine dS HT 29 rfl ?_
                          refine dS HT 30 rfl ?_
                          refine dS HT 31 rfl ?_
                          refine dpG HT 32 rfl pK ?_
                          refine dpG HT 33 rfl pK ?_
                          refine dp HT 34 rfl pK ?_
                          refine dE HT ?_
                          clear HT
                          refine aCondF rfl ?_
                          refine aSkip ?_
                          refine aReg ?_
                          refine sp pM ?_
                          refine sp pAd ?_
                          refine sp pMa ?_
                          refine oNil ?_
                          refine ⟨i + 1, ?_, by (try dsimp only); omega, ⟨gInt rfl (by first | rfl | omega | simp), rfl, trivial⟩, _, (by repeat constructor)⟩
                          have hs := arcs_step (p := prevA l i) hx13
                          refine ⟨by omega, ?_⟩
                          rw [hv, hs, prevA_succ hx13]
                          by_cases h0 : i = 0 <;> simp_all [arcB, nodeB, ordA, prevA, orderA_lt, ltA]
                          all_goals (intros; omega)
                    · skip
                      refine dS HT 3 rfl ?_
                      refine dS HT 4 rfl ?_
                      refine dS HT 5 rfl ?_
                      refine dS HT 6 rfl ?_
                      refine dS HT 7 rfl ?_
                      refine dS HT 8 rfl ?_
                      refine dS HT 9 rfl ?_
                      refine dS HT 10 rfl ?_
                      refine dS HT 11 rfl ?_
                      refine dS HT 12 rfl ?_
                      refine dS HT 13 rfl ?_
                      refine dS HT 14 rfl ?_
                      refine dS HT 15 rfl ?_
                      refine dS HT 16 rfl ?_
                      refine dS HT 17 rfl ?_
                      refine dS HT 18 rfl ?_
                      refine dS HT 19 rfl ?_
                      refine dS HT 20 rfl ?_
                      refine dS HT 21 rfl ?_
                      refine dS HT 22 rfl ?_
                      refine dS HT 23 rfl ?_
                      refine dS HT 24 rfl ?_
                      refine dS HT 25 rfl ?_
                      refine dS HT 26 rfl ?_
                      refine dS HT 27 rfl ?_
                      refine dS HT 28 rfl ?_
                      refine dS HT 29 rfl ?_
                      refine dS HT 30 rfl ?_
                      refine dS HT 31 rfl ?_
                      refine dS HT 32 rfl ?_
                      refine dS HT 33 rfl ?_
                      refine dp HT 34 rfl pK ?_
                      refine dE HT ?_
                      clear HT
                      refine aCondF rfl ?_
                      refine aSkip ?_
                      refine aReg ?_
                      refine sp pM ?_
                      refine sp pAd ?_
                      refine sp pMa ?_
                      refine oNil ?_
                      refine ⟨i + 1, ?_, by (try dsimp only); omega, ⟨gInt rfl (by first | rfl | omega | simp), rfl, trivial⟩, _, (by repeat constructor)⟩
                      have hs := arcs_step (p := prevA l i) hx13
                      refine ⟨by omega, ?_⟩
                      rw [hv, hs, prevA_succ hx13]
                      by_cases h0 : i = 0 <;> simp_all [arcB, nodeB, ordA, prevA, orderA_lt, ltA]
                      all_goals (intros; omega)
    · skip
      refine aExit rfl ?_
      refine aSeq ?_
      refine aReg ?_
      refine sp pMa ?_
      refine oNil ?_
      refine aRet ?_
      refine finIs rfl ?_
      show AV.v (.bool true) = AV.v (.bool _)
      rw [hv, List.drop_of_length_le (by omega)]
      rfl
end A
end Go.Proofs.Ytnabkchagjjjnaa
set_option linter.unusedVariables false
set_option linter.unusedSimpArgs false
namespace Go.Proofs.Ytnabkchagjjjnaa
namespace A
def idxF {α : Type} (p : α → Bool) : List α → Int
  | [] => -1
  | x :: l => if p x then 0 else if idxF p l < 0 then -1 else idxF p l + 1
theorem idxF_no {α : Type} {p : α → Bool} : ∀ {l : List α}, (∀ x ∈ l, p x = false) → idxF p l = -1 ∧ l.find? p = none
  | [], _ => ⟨rfl, rfl⟩
  | x :: l, h => by
    have h1 := h x (by simp)
    obtain ⟨h2, h3⟩ := idxF_no (l := l) (fun y hy => h y (by simp [hy]))
    simp [idxF, List.find?, h1, h2, h3]
theorem idxF_at {α : Type} {p : α → Bool} : ∀ {l : List α} {i : Nat} {x : α}, (∀ y ∈ l.take i, p y = false) → l[i]? = some x → p x = true → idxF p l = i ∧ l.find? p = some x
  | [], _, _, _, h, _ => by simp at h
  | y :: l, 0, x, _, h, hp => by simp at h; subst h; simp [idxF, List.find?, hp]
  | y :: l, i + 1, x, h, hx, hp => by
    have h1 := h y (by simp)
    obtain ⟨h2, h3⟩ := idxF_at (l := l) (i := i) (fun z hz => h z (by simp [hz])) (by simpa using hx) hp
    simp only [idxF, List.find?, h1, h2, h3, Bool.false_eq_true, if_false]
    rw [if_neg (by omega)]
    refine ⟨by simp, ?_⟩
    first | rfl | trivial
theorem idxF_cases {α : Type} (p : α → Bool) (l : List α) : (idxF p l = -1 ∧ l.find? p = none) ∨ ∃ i x, idxF p l = (i : Nat) ∧ l[i]? = some x ∧ l.find? p = some x := by
  induction l with
  | nil => exact .inl ⟨rfl, rfl⟩
  | cons y l ih =>
    cases hp : p y with
    | true => exact .inr ⟨0, y, by simp [idxF, hp], rfl, by simp [List.find?, hp]⟩
    | false =>
      rcases ih with ⟨h1, h2⟩ | ⟨i, x, h1, h2, h3⟩
      · exact .inl ⟨by simp [idxF, hp, h1], by simp [List.find?, hp, h2]⟩
      · refine .inr ⟨i + 1, x, ?_, by simpa using h2, by simp [List.find?, hp, h3]⟩
        simp only [idxF, hp, h1, Bool.false_eq_true, if_false]
        rw [if_neg (by omega)]
        simp
theorem idxF_none {α : Type} {p : α → Bool} {l : List α} (h : idxF p l = -1) : (l.filter fun x => !p x) = l := by
  rcases idxF_cases p l with ⟨_, h2⟩ | ⟨i, x, h1, _⟩
  · rw [List.filter_eq_self]
    intro a ha
    have := List.find?_eq_none.1 h2 a ha
    simpa using this
  · omega
theorem idxF_split {α : Type} {p : α → Bool} : ∀ {l : List α}, idxF p l ≠ -1 → ∃ n : Nat, idxF p l = n ∧ n < l.length ∧ l.take n = (l.take (n + 1)).filter (fun x => !p x)
  | [], h => absurd rfl h
  | y :: l, h => by
    cases hp : p y with
    | true => exact ⟨0, by simp [idxF, hp], by simp, by simp [hp]⟩
    | false =>
      have hn : idxF p l ≠ -1 := fun e => h (by simp [idxF, hp, e])
      obtain ⟨n, h1, h2, h3⟩ := idxF_split hn
      refine ⟨n + 1, ?_, by simp; omega, ?_⟩
      · simp only [idxF, hp, h1, Bool.false_eq_true, if_false]
        rw [if_neg (by omega)]
        simp
      · simp [hp]; exact h3
theorem take_set_succ {α : Type} {l : List α} {i : Nat} {x : α} (h : i < l.length) : (l.set i x).take (i + 1) = l.take i ++ [x] := by
  rw [take_step (a := x) (by rw [List.getElem?_set_self h])]
  rw [List.take_set_of_le (Nat.le_refl _)]
end A
end Go.Proofs.Ytnabkchagjjjnaa
set_option linter.unusedVariables false
set_option linter.unusedSimpArgs false
namespace Go.Proofs.Ytnabkchagjjjnaa
namespace A
theorem el_51 : elemOf Try.prog 51 = some (3, 1, 8) := by kernel_rfl
theorem ty_51 : tyOf Try.prog 51 = some (1, false) := by kernel_rfl
theorem ty_95 : tyOf Try.prog 95 = some (1, false) := by kernel_rfl
theorem ty_96 : tyOf Try.prog 96 = some (1, false) := by kernel_rfl
theorem ty_97 : tyOf Try.prog 97 = some (1, false) := by kernel_rfl
theorem um_95 : Try.prog.underlying 95 = some (.map 3 56) := by kernel_rfl
theorem um_96 : Try.prog.underlying 96 = some (.map 3 3) := by kernel_rfl
theorem um_97 : Try.prog.underlying 97 = some (.map 3 4) := by kernel_rfl
/- maps.Keys[map[int]bool,int,bool]$1 -/
set_option maxRecDepth 100000 in
set_option maxHeartbeats 400000 in
theorem keys1_mib (b pb : Nat) (kvs : List (Int × AV)) (l : Nat) (I : List (List AV) → List HA → Prop) (S : List HA → Prop) (hy : ∀ pre x hc, KNx kvs pre x → I pre hc → YTriple Try.prog l x hc (fun r h' => ∃ v : Bool, r = .v (.bool v) ∧ (v = true → I (pre ++ [x]) h') ∧ (v = false → S h'))) (hc0 : List HA) (h0 : I [] hc0) : Triple Try.prog 75 [.fn (.yield l) [], .v (.pointer (some ⟨pb, 0, none⟩))] (.box pb [.v (.map (some b))] :: .map b kvs :: hc0) (fun r h' => ∃ hc', h' = .box pb [.v (.map (some b))] :: .map b kvs :: hc' ∧ ((∃ xs, KE kvs xs ∧ I xs hc') ∨ S hc')) := by
  refine triple_of Try.func75 rfl (by kernel_rfl) rfl (by simp) ?_
  refine aSeq ?_
  refine aReg ?_
  refine sr (rB1 ty_97) ?_
  refine sa ?_
  refine oRange rfl rfl (by decide) rfl (by repeat constructor) um_97 (fun r5 => ?_)
  refine oNil ?_
  refine aBlock ?_
  refine aLoopI (α := List Nat × List HA) (fun (idx, hc) => Idx kvs.length idx ∧ I (idx.map fun i => intA (keyAt kvs i)) hc) (fun (idx, hc) => ([(0, .fn (.yield l) []), (5, .v (.pointer (some ⟨r5, 0, none⟩)))], .mapIt b r5 kvs idx :: .box pb [.v (.map (some b))] :: hc)) (fun (idx, hc) => kvs.length - idx.length) ([], hc0) ?_ ?_ ?_
  · skip
    exact ⟨Idx.nil, h0⟩
  · skip
    exact weak_env ⟨rfl, rfl, trivial⟩
  · rintro ⟨idx, hc⟩ ⟨hix, hi⟩
    skip
    refine aSeq ?_
    refine aReg ?_
    refine sa ?_
    refine oNextR rfl rfl (by decide) rfl (by repeat constructor) (fun t6 ks6 ix6 hn6 => ?_)
    refine sp pX ?_
    refine oNil ?_
    refine aSeq ?_
    refine aCond rfl (fun c7 => ?_) (fun c7 => ?_)
    · skip
      refine aSkip ?_
      refine aBlock ?_
      refine aSeq ?_
      refine aReg ?_
      obtain ⟨i, kv, hkv, hni, rfl, rfl⟩ := hn6.yes c7
      refine sr (rEntry rfl rfl (by repeat constructor) hkv) ?_
      refine sp pX ?_
      refine sp pMa ?_
      refine oNil ?_
      refine aSeq ?_
      refine aReg ?_
      refine sp pM ?_
      refine sp pM ?_
      refine oYield (hfr := [.mapIt b r5 kvs (idx ++ [i]), .box pb [.v (.map (some b))]]) rfl rfl rfl (by decide) rfl rfl (hy _ (intA kv.1) hc (hix.knx hkv hni) hi) ?_
      rintro _ h2 ⟨v, rfl, hq1, hq2⟩
      refine sp pNo ?_
      refine oNil ?_
      refine aCondNot rfl (fun c13 => ?_) (fun c13 => ?_)
      · skip
        refine aWeak (weak_unmap .hd) ?_
        refine aRet ?_
        exact ⟨_, _, [], rfl, .cons (.tl .hd) (.cons .hd tk_refl), h2, rfl, .inr (hq2 (by simpa using c13))⟩
      · skip
        refine aSkip ?_
        have hil := (List.getElem?_eq_some_iff.1 hkv).1
        have hlt := hix.lt hil hni
        have hq := hq1 (by simpa using c13)
        refine ⟨(idx ++ [i], h2), ⟨hix.add hil hni, ?_⟩, by show kvs.length - (idx ++ [i]).length < kvs.length - idx.length; simp only [List.length_append, List.length_cons, List.length_nil]; omega, weak_env ⟨rfl, rfl, trivial⟩⟩
        rw [List.map_append, List.map_singleton, keyAt_get hkv]
        exact hq
    · skip
      obtain ⟨rfl, rfl, hall⟩ := hn6.no c7
      refine aWeak (weak_unmap .hd) ?_
      refine aExit rfl ?_
      exact ⟨_, _, [], rfl, .cons (.tl .hd) (.cons .hd tk_refl), hc, rfl, .inl ⟨_, hix.ke hall, hi⟩⟩
theorem keys1_mib_iter (b pb : Nat) (kvs : List (Int × AV)) : IterT Try.prog 75 [.v (.pointer (some ⟨pb, 0, none⟩))] (KNx kvs) (KE kvs) [.box pb [.v (.map (some b))], .map b kvs] :=
  ⟨⟨_, Try.func75, by kernel_rfl, rfl⟩, fun l I S hy hc h0 => keys1_mib b pb kvs l I S (fun pre x hc hn hi => (hy pre x hc hn hi).bool) hc h0⟩
/- maps.Keys[map[int]bool,int,bool] -/
set_option maxRecDepth 100000 in
set_option maxHeartbeats 400000 in
theorem keys_mib (b : Nat) : Triple Try.prog 55 [.v (.map (some b))] [] (fun r h' => ∃ pb, r = .fn (.func 75) [.v (.pointer (some ⟨pb, 0, none⟩))] ∧ h' = [.box pb [.v (.map (some b))]]) := by
  refine triple_of Try.func55 rfl (by kernel_rfl) rfl (by simp) ?_
  refine aSeq ?_
  refine aReg ?_
  refine sq ?_
  refine qBox rfl rfl (by decide) rfl rfl (fun b1 => ?_)
  refine sp pMa ?_
  refine oNil ?_
  refine aSeq ?_
  refine aReg ?_
  refine sp (pFn rfl rfl) ?_
  refine sp pMa ?_
  refine oNil ?_
  refine aRet ?_
  exact ⟨_, [_], [], rfl, .cons .hd .nil, b1, rfl, rfl⟩
/- api.Edge]$1 -/
set_option maxRecDepth 100000 in
set_option maxHeartbeats 400000 in
theorem keys1_mie (b pb : Nat) (kvs : List (Int × AV)) (l : Nat) (I : List (List AV) → List HA → Prop) (S : List HA → Prop) (hy : ∀ pre x hc, KNx kvs pre x → I pre hc → YTriple Try.prog l x hc (fun r h' => ∃ v : Bool, r = .v (.bool v) ∧ (v = true → I (pre ++ [x]) h') ∧ (v = false → S h'))) (hc0 : List HA) (h0 : I [] hc0) : Triple Try.prog 76 [.fn (.yield l) [], .v (.pointer (some ⟨pb, 0, none⟩))] (.box pb [.v (.map (some b))] :: .map b kvs :: hc0) (fun r h' => ∃ hc', h' = .box pb [.v (.map (some b))] :: .map b kvs :: hc' ∧ ((∃ xs, KE kvs xs ∧ I xs hc') ∨ S hc')) := by
  refine triple_of Try.func76 rfl (by kernel_rfl) rfl (by simp) ?_
  refine aSeq ?_
  refine aReg ?_
  refine sr (rB1 ty_95) ?_
  refine sa ?_
  refine oRange rfl rfl (by decide) rfl (by repeat constructor) um_95 (fun r5 => ?_)
  refine oNil ?_
  refine aBlock ?_
  refine aLoopI (α := List Nat × List HA) (fun (idx, hc) => Idx kvs.length idx ∧ I (idx.map fun i => intA (keyAt kvs i)) hc) (fun (idx, hc) => ([(0, .fn (.yield l) []), (5, .v (.pointer (some ⟨r5, 0, none⟩)))], .mapIt b r5 kvs idx :: .box pb [.v (.map (some b))] :: hc)) (fun (idx, hc) => kvs.length - idx.length) ([], hc0) ?_ ?_ ?_
  · skip
    exact ⟨Idx.nil, h0⟩
  · skip
    exact weak_env ⟨rfl, rfl, trivial⟩
  · rintro ⟨idx, hc⟩ ⟨hix, hi⟩
    skip
    refine aSeq ?_
    refine aReg ?_
    refine sa ?_
    refine oNextR rfl rfl (by decide) rfl (by repeat constructor) (fun t6 ks6 ix6 hn6 => ?_)
    refine sp pX ?_
    refine oNil ?_
    refine aSeq ?_
    refine aCond rfl (fun c7 => ?_) (fun c7 => ?_)
    · skip
      refine aSkip ?_
      refine aBlock ?_
      refine aSeq ?_
      refine aReg ?_
      obtain ⟨i, kv, hkv, hni, rfl, rfl⟩ := hn6.yes c7
      refine sr (rEntry rfl rfl (by repeat constructor) hkv) ?_
      refine sp pX ?_
      refine sp pMa ?_
      refine oNil ?_
      refine aSeq ?_
      refine aReg ?_
      refine sp pM ?_
      refine sp pM ?_
      refine oYield (hfr := [.mapIt b r5 kvs (idx ++ [i]), .box pb [.v (.map (some b))]]) rfl rfl rfl (by decide) rfl rfl (hy _ (intA kv.1) hc (hix.knx hkv hni) hi) ?_
      rintro _ h2 ⟨v, rfl, hq1, hq2⟩
      refine sp pNo ?_
      refine oNil ?_
      refine aCondNot rfl (fun c13 => ?_) (fun c13 => ?_)
      · skip
        refine aWeak (weak_unmap .hd) ?_
        refine aRet ?_
        exact ⟨_, _, [], rfl, .cons (.tl .hd) (.cons .hd tk_refl), h2, rfl, .inr (hq2 (by simpa using c13))⟩
      · skip
        refine aSkip ?_
        have hil := (List.getElem?_eq_some_iff.1 hkv).1
        have hlt := hix.lt hil hni
        have hq := hq1 (by simpa using c13)
        refine ⟨(idx ++ [i], h2), ⟨hix.add hil hni, ?_⟩, by show kvs.length - (idx ++ [i]).length < kvs.length - idx.length; simp only [List.length_append, List.length_cons, List.length_nil]; omega, weak_env ⟨rfl, rfl, trivial⟩⟩
        rw [List.map_append, List.map_singleton, keyAt_get hkv]
        exact hq
    · skip
      obtain ⟨rfl, rfl, hall⟩ := hn6.no c7
      refine aWeak (weak_unmap .hd) ?_
      refine aExit rfl ?_
      exact ⟨_, _, [], rfl, .cons (.tl .hd) (.cons .hd tk_refl), hc, rfl, .inl ⟨_, hix.ke hall, hi⟩⟩
theorem keys1_mie_iter (b pb : Nat) (kvs : List (Int × AV)) : IterT Try.prog 76 [.v (.pointer (some ⟨pb, 0, none⟩))] (KNx kvs) (KE kvs) [.box pb [.v (.map (some b))], .map b kvs] :=
  ⟨⟨_, Try.func76, by kernel_rfl, rfl⟩, fun l I S hy hc h0 => keys1_mie b pb kvs l I S (fun pre x hc hn hi => (hy pre x hc hn hi).bool) hc h0⟩
/- api.Edge] -/
set_option maxRecDepth 100000 in
set_option maxHeartbeats 400000 in
theorem keys_mie (b : Nat) : Triple Try.prog 58 [.v (.map (some b))] [] (fun r h' => ∃ pb, r = .fn (.func 76) [.v (.pointer (some ⟨pb, 0, none⟩))] ∧ h' = [.box pb [.v (.map (some b))]]) := by
  refine triple_of Try.func58 rfl (by kernel_rfl) rfl (by simp) ?_
  refine aSeq ?_
  refine aReg ?_
  refine sq ?_
  refine qBox rfl rfl (by decide) rfl rfl (fun b1 => ?_)
  refine sp pMa ?_
  refine oNil ?_
  refine aSeq ?_
  refine aReg ?_
  refine sp (pFn rfl rfl) ?_
  refine sp pMa ?_
  refine oNil ?_
  refine aRet ?_
  exact ⟨_, [_], [], rfl, .cons .hd .nil, b1, rfl, rfl⟩
/- maps.Keys[map[int]int,int,int]$1 -/
set_option maxRecDepth 100000 in
set_option maxHeartbeats 400000 in
theorem keys1_mii (b pb : Nat) (kvs : List (Int × AV)) (l : Nat) (I : List (List AV) → List HA → Prop) (S : List HA → Prop) (hy : ∀ pre x hc, KNx kvs pre x → I pre hc → YTriple Try.prog l x hc (fun r h' => ∃ v : Bool, r = .v (.bool v) ∧ (v = true → I (pre ++ [x]) h') ∧ (v = false → S h'))) (hc0 : List HA) (h0 : I [] hc0) : Triple Try.prog 78 [.fn (.yield l) [], .v (.pointer (some ⟨pb, 0, none⟩))] (.box pb [.v (.map (some b))] :: .map b kvs :: hc0) (fun r h' => ∃ hc', h' = .box pb [.v (.map (some b))] :: .map b kvs :: hc' ∧ ((∃ xs, KE kvs xs ∧ I xs hc') ∨ S hc')) := by
  refine triple_of Try.func78 rfl (by kernel_rfl) rfl (by simp) ?_
  refine aSeq ?_
  refine aReg ?_
  refine sr (rB1 ty_96) ?_
  refine sa ?_
  refine oRange rfl rfl (by decide) rfl (by repeat constructor) um_96 (fun r5 => ?_)
  refine oNil ?_
  refine aBlock ?_
  refine aLoopI (α := List Nat × List HA) (fun (idx, hc) => Idx kvs.length idx ∧ I (idx.map fun i => intA (keyAt kvs i)) hc) (fun (idx, hc) => ([(0, .fn (.yield l) []), (5, .v (.pointer (some ⟨r5, 0, none⟩)))], .mapIt b r5 kvs idx :: .box pb [.v (.map (some b))] :: hc)) (fun (idx, hc) => kvs.length - idx.length) ([], hc0) ?_ ?_ ?_
  · skip
    exact ⟨Idx.nil, h0⟩
  · skip
    exact weak_env ⟨rfl, rfl, trivial⟩
  · rintro ⟨idx, hc⟩ ⟨hix, hi⟩
    skip
    refine aSeq ?_
    refine aReg ?_
    refine sa ?_
    refine oNextR rfl rfl (by decide) rfl (by repeat constructor) (fun t6 ks6 ix6 hn6 => ?_)
    refine sp pX ?_
    refine oNil ?_
    refine aSeq ?_
    refine aCond rfl (fun c7 => ?_) (fun c7 => ?_)
    · skip
      refine aSkip ?_
      refine aBlock ?_
      refine aSeq ?_
      refine aReg ?_
      obtain ⟨i, kv, hkv, hni, rfl, rfl⟩ := hn6.yes c7
      refine sr (rEntry rfl rfl (by repeat constructor) hkv) ?_
      refine sp pX ?_
      refine sp pMa ?_
      refine oNil ?_
      refine aSeq ?_
      refine aReg ?_
      refine sp pM ?_
      refine sp pM ?_
      refine oYield (hfr := [.mapIt b r5 kvs (idx ++ [i]), .box pb [.v (.map (some b))]]) rfl rfl rfl (by decide) rfl rfl (hy _ (intA kv.1) hc (hix.knx hkv hni) hi) ?_
      rintro _ h2 ⟨v, rfl, hq1, hq2⟩
      refine sp pNo ?_
      refine oNil ?_
      refine aCondNot rfl (fun c13 => ?_) (fun c13 => ?_)
      · skip
        refine aWeak (weak_unmap .hd) ?_
        refine aRet ?_
        exact ⟨_, _, [], rfl, .cons (.tl .hd) (.cons .hd tk_refl), h2, rfl, .inr (hq2 (by simpa using c13))⟩
      · skip
        refine aSkip ?_
        have hil := (List.getElem?_eq_some_iff.1 hkv).1
        have hlt := hix.lt hil hni
        have hq := hq1 (by simpa using c13)
        refine ⟨(idx ++ [i], h2), ⟨hix.add hil hni, ?_⟩, by show kvs.length - (idx ++ [i]).length < kvs.length - idx.length; simp only [List.length_append, List.length_cons, List.length_nil]; omega, weak_env ⟨rfl, rfl, trivial⟩⟩
        rw [List.map_append, List.map_singleton, keyAt_get hkv]
        exact hq
    · skip
      obtain ⟨rfl, rfl, hall⟩ := hn6.no c7
      refine aWeak (weak_unmap .hd) ?_
      refine aExit rfl ?_
      exact ⟨_, _, [], rfl, .cons (.tl .hd) (.cons .hd tk_refl), hc, rfl, .inl ⟨_, hix.ke hall, hi⟩⟩
theorem keys1_mii_iter (b pb : Nat) (kvs : List (Int × AV)) : IterT Try.prog 78 [.v (.pointer (some ⟨pb, 0, none⟩))] (KNx kvs) (KE kvs) [.box pb [.v (.map (some b))], .map b kvs] :=
  ⟨⟨_, Try.func78, by kernel_rfl, rfl⟩, fun l I S hy hc h0 => keys1_mii b pb kvs l I S (fun pre x hc hn hi => (hy pre x hc hn hi).bool) hc h0⟩
/- maps.Keys[map[int]int,int,int] -/
set_option maxRecDepth 100000 in
set_option maxHeartbeats 400000 in
theorem keys_mii (b : Nat) : Triple Try.prog 62 [.v (.map (some b))] [] (fun r h' => ∃ pb, r = .fn (.func 78) [.v (.pointer (some ⟨pb, 0, none⟩))] ∧ h' = [.box pb [.v (.map (some b))]]) := by
  refine triple_of Try.func62 rfl (by kernel_rfl) rfl (by simp) ?_
  refine aSeq ?_
  refine aReg ?_
  refine sq ?_
  refine qBox rfl rfl (by decide) rfl rfl (fun b1 => ?_)
  refine sp pMa ?_
  refine oNil ?_
  refine aSeq ?_
  refine aReg ?_
  refine sp (pFn rfl rfl) ?_
  refine sp pMa ?_
  refine oNil ?_
  refine aRet ?_
  exact ⟨_, [_], [], rfl, .cons .hd .nil, b1, rfl, rfl⟩
def srt_ren : Go.Shelf.Ren := ⟨fun | 189 => 68 | 125 => 73 | 257 => 80 | 128 => 89 | 129 => 90 | 294 => 91 | 295 => 92 | 296 => 93 | 297 => 94 | 298 => 95 | 299 => 96 | 216 => 97 | 300 => 98 | 301 => 99 | 328 => 105 | 329 => 101 | 330 => 102 | 331 => 106 | 332 => 107 | 215 => 74 | 343 => 109 | n => n, fun | 28 => 51 | 3 => 3 | 46 => 121 | 0 => 0 | 51 => 133 | 53 => 135 | 4 => 4 | 183 => 127 | 182 => 126 | 131 => 108 | 5 => 5 | 9 => 9 | 218 => 142 | 222 => 146 | 228 => 150 | 229 => 151 | n => n, fun | n => n⟩
theorem srt : Go.Proofs.Lays.n189 Try.prog srt_ren := {
  mixed := by kernel_rfl,
  f125 := Try.func73.trans (congrArg some (by kernel_rfl)),
  f128 := Try.func89.trans (congrArg some (by kernel_rfl)),
  f129 := Try.func90.trans (congrArg some (by kernel_rfl)),
  f189 := Try.func68.trans (congrArg some (by kernel_rfl)),
  f215 := Try.func74.trans (congrArg some (by kernel_rfl)),
  f216 := Try.func97.trans (congrArg some (by kernel_rfl)),
  f257 := Try.func80.trans (congrArg some (by kernel_rfl)),
  f294 := Try.func91.trans (congrArg some (by kernel_rfl)),
  f295 := Try.func92.trans (congrArg some (by kernel_rfl)),
  f296 := Try.func93.trans (congrArg some (by kernel_rfl)),
  f297 := Try.func94.trans (congrArg some (by kernel_rfl)),
  f298 := Try.func95.trans (congrArg some (by kernel_rfl)),
  f299 := Try.func96.trans (congrArg some (by kernel_rfl)),
  f300 := Try.func98.trans (congrArg some (by kernel_rfl)),
  f301 := Try.func99.trans (congrArg some (by kernel_rfl)),
  f328 := Try.func105.trans (congrArg some (by kernel_rfl)),
  f329 := Try.func101.trans (congrArg some (by kernel_rfl)),
  f330 := Try.func102.trans (congrArg some (by kernel_rfl)),
  f331 := Try.func106.trans (congrArg some (by kernel_rfl)),
  f332 := Try.func107.trans (congrArg some (by kernel_rfl)),
  f343 := Try.func109.trans (congrArg some (by kernel_rfl)),
  t0 := Try.underlying0,
  a0 := Try.isAgg0,
  z0 := Try.sizeOf0,
  v0 := Try.zeroValue0,
  t3 := Try.underlying3,
  a3 := Try.isAgg3,
  z3 := Try.sizeOf3,
  v3 := Try.zeroValue3,
  t4 := Try.underlying4,
  a4 := Try.isAgg4,
  z4 := Try.sizeOf4,
  v4 := Try.zeroValue4,
  t5 := Try.underlying5,
  a5 := Try.isAgg5,
  z5 := Try.sizeOf5,
  v5 := Try.zeroValue5,
  t9 := Try.underlying9,
  a9 := Try.isAgg9,
  z9 := Try.sizeOf9,
  v9 := Try.zeroValue9,
  t28 := Try.underlying51,
  a28 := Try.isAgg51,
  z28 := Try.sizeOf51,
  v28 := Try.zeroValue51,
  t46 := Try.underlying121,
  a46 := Try.isAgg121,
  z46 := Try.sizeOf121,
  v46 := Try.zeroValue121,
  t51 := Try.underlying133,
  a51 := Try.isAgg133,
  z51 := Try.sizeOf133,
  v51 := Try.zeroValue133,
  t53 := Try.underlying135,
  a53 := Try.isAgg135,
  z53 := Try.sizeOf135,
  v53 := Try.zeroValue135,
  t131 := Try.underlying108,
  a131 := Try.isAgg108,
  z131 := Try.sizeOf108,
  v131 := Try.zeroValue108,
  t182 := Try.underlying126,
  a182 := Try.isAgg126,
  z182 := Try.sizeOf126,
  v182 := Try.zeroValue126,
  t183 := Try.underlying127,
  a183 := Try.isAgg127,
  z183 := Try.sizeOf127,
  v183 := Try.zeroValue127,
  t218 := Try.underlying142,
  a218 := Try.isAgg142,
  z218 := Try.sizeOf142,
  v218 := Try.zeroValue142,
  t222 := Try.underlying146,
  a222 := Try.isAgg146,
  z222 := Try.sizeOf146,
  v222 := Try.zeroValue146,
  t228 := Try.underlying150,
  a228 := Try.isAgg150,
  z228 := Try.sizeOf150,
  v228 := Try.zeroValue150,
  t229 := Try.underlying151,
  a229 := Try.isAgg151,
  z229 := Try.sizeOf151,
  v229 := Try.zeroValue151 }
/- slices.AppendSeq[[]int,int] -/
set_option maxRecDepth 100000 in
set_option maxHeartbeats 400000 in
theorem appendSeq_int (gf : FuncId) (caps : List AV) (kvs : List (Int × AV)) (hit : List HA) (it : IterT Try.prog gf caps (KNx kvs) (KE kvs) hit) (hl : kvs.length ≤ 1000000) : Triple Try.prog 79 [(.v (.slice none 0 0)), .fn (.func gf) caps] hit (fun r h' => ∃ (ks : List Int) (g : Option Nat) (c : Nat), r = .v (slV g ks.length c) ∧ h' = .sl g c 3 1 (ks.map intA) :: hit ∧ ks.Perm (kvs.map Prod.fst)) := by
  refine triple_of Try.func79 rfl (by kernel_rfl) rfl (by simp) ?_
  refine aSeq ?_
  refine aReg ?_
  refine sq ?_
  refine qBox rfl rfl (by decide) rfl rfl (fun b2 => ?_)
  refine sp pMa ?_
  refine oNil ?_
  refine aSeq ?_
  refine aSeq ?_
  refine aReg ?_
  refine sp pM ?_
  refine oNil ?_
  refine aBlock ?_
  refine aRangeFunc (α := List Int × Option Nat × Nat) (fun (ks, g, c) => [.sl g c 3 1 (ks.map intA), .box b2 [.v (slV g ks.length c)]]) (fun pre (ks, g, c) => pre = ks.map intA) ([], none, 0) rfl (by decide) it ?_ ?_ ?_ ?_ ?_
  · skip
    rintro _ _ ⟨_, _, _, rfl, _⟩; rfl
  · skip
    refine Weak.trans (weak_nil 3 1) ?_
    exact weak_perm (List.perm_append_comm (l₁ := [_, _]))
  · skip
    rfl
  · rintro pre x ⟨ks, g, c⟩ ⟨ks', k, hpre, rfl, hkl⟩ hJ
    replace hJ : pre = ks.map intA := hJ
    obtain rfl : ks = ks' := intA_inj (hJ.symm.trans hpre)
    refine aReg ?_
    refine sp pMa ?_
    refine oNil ?_
    refine aBlock ?_
    refine aReg ?_
    refine sr (by first | exact rS1 ty_51 | exact rB1 ty_51 | exact rAr ty_51 | exact rArL ty_51 | exact rArR2 ty_51) ?_
    refine sp pM ?_
    refine sq ?_
    refine qLit (l := [_]) rfl rfl (by decide) us_51 ty_3 ze_3 rfl (by decide) (by decide) rfl rfl rfl (fun b10 => ?_)
    refine sa ?_
    refine oAppT [_] rfl rfl (by repeat constructor) (srcOwn rfl (by repeat constructor) rfl) el_51 sl_51 (fun g11 k11 => ?_)
    refine sa ?_
    refine oStB rfl rfl rfl rfl (by repeat constructor) ty_51 rfl (Nat.le_of_ble_eq_true rfl) rfl ?_
    refine oNil ?_
    refine ⟨(ks ++ [k], g11, k11), by show pre ++ _ = List.map intA (ks ++ [k]); rw [List.map_append, hJ]; rfl, ?_⟩
    simp only [List.map_append, List.map_cons, List.map_nil, List.length_append, List.length_cons, List.length_nil, List.length_map]
    exact weak_sub trivial (by repeat constructor)
  · rintro xs ⟨ks, g, c⟩ hE hJ
    try dsimp only [List.nil_append, List.cons_append]
    replace hJ : xs = ks.map intA := hJ
    obtain ⟨ks', hks, hperm⟩ := hE
    obtain rfl : ks = ks' := intA_inj (hJ.symm.trans hks)
    refine aWeak (weak_perm List.perm_append_comm) ?_
    refine aSeq ?_
    refine aReg ?_
    refine sr (by first | exact rS1 ty_51 | exact rB1 ty_51 | exact rAr ty_51 | exact rArL ty_51 | exact rArR2 ty_51) ?_
    refine sp pMa ?_
    refine oNil ?_
    refine aRet ?_
    exact ⟨_, _ :: hit, [_], rfl, .cons .hd (tk_after (l := [_])), ks, g, c, rfl, rfl, hperm⟩
/- slices.Collect[int] -/
set_option maxRecDepth 100000 in
set_option maxHeartbeats 400000 in
theorem collect_int (gf : FuncId) (caps : List AV) (kvs : List (Int × AV)) (hit : List HA) (it : IterT Try.prog gf caps (KNx kvs) (KE kvs) hit) (hl : kvs.length ≤ 1000000) : Triple Try.prog 67 [.fn (.func gf) caps] hit (fun r h' => ∃ (ks : List Int) (g : Option Nat) (c : Nat), r = .v (slV g ks.length c) ∧ h' = .sl g c 3 1 (ks.map intA) :: hit ∧ ks.Perm (kvs.map Prod.fst)) := by
  refine triple_of Try.func67 rfl (by kernel_rfl) rfl (by simp) ?_
  refine aSeq ?_
  refine aReg ?_
  refine sp pMa ?_
  refine oNil ?_
  refine aSeq ?_
  refine aReg ?_
  refine sp pM ?_
  refine sa ?_
  refine aCall (hin := hit) (hfr := []) rfl rfl (by decide) rfl rfl tk_refl (appendSeq_int gf caps kvs hit it hl) ?_
  rintro _ _ ⟨ks, g, c, rfl, rfl, hperm⟩
  refine sp pMa ?_
  refine oNil ?_
  refine aRet ?_
  refine ⟨_, _ :: hit, [], rfl, ?_, ks, g, c, rfl, rfl, hperm⟩
  rw [List.append_nil]
  exact tk_refl
/- slices.Sorted[int] -/
set_option maxRecDepth 100000 in
set_option maxHeartbeats 400000 in
theorem sorted_int (gf : FuncId) (caps : List AV) (kvs : List (Int × AV)) (hit : List HA) (it : IterT Try.prog gf caps (KNx kvs) (KE kvs) hit) (hl : kvs.length ≤ 1000000) : Triple Try.prog 43 [.fn (.func gf) caps] hit (fun r h' => ∃ g c, r = .v (slV g (sortI (kvs.map Prod.fst)).length c) ∧ h' = .sl g c 3 1 ((sortI (kvs.map Prod.fst)).map intA) :: hit) := by
  refine triple_of Try.func43 rfl (by kernel_rfl) rfl (by simp) ?_
  refine aSeq ?_
  refine aReg ?_
  refine sp pMa ?_
  refine oNil ?_
  refine aSeq ?_
  refine aReg ?_
  refine sp pM ?_
  refine sa ?_
  refine aCall (hin := hit) (hfr := []) rfl rfl (by decide) rfl rfl tk_refl (collect_int gf caps kvs hit it hl) ?_
  rintro _ _ ⟨ks, g, c, rfl, rfl, hperm⟩
  refine sp pMa ?_
  refine oNil ?_
  refine aSeq ?_
  refine aReg ?_
  refine sp pM ?_
  refine sa ?_
  refine aCall (hin := [_]) (hfr := hit ++ []) rfl rfl (by decide) rfl rfl (.cons .hd .nil) (triple_sort srt rfl ⟨_, Try.func68, by kernel_rfl, rfl⟩ g c 3 ks (by have := hperm.length_eq; rw [List.length_map] at this; omega)) ?_
  rintro _ _ ⟨rfl, rfl⟩
  refine oNil ?_
  refine aSeq ?_
  refine aReg ?_
  refine sp pM ?_
  refine sp pMa ?_
  refine oNil ?_
  refine aRet ?_
  have hs : sortI ks = sortI (kvs.map Prod.fst) := sortI_perm hperm
  refine ⟨_, .sl g c 3 1 ((sortI ks).map intA) :: hit, [], rfl, ?_, g, c, ?_, ?_⟩
  · show Tk (_ :: (hit ++ [])) _ _
    rw [List.append_nil]
    exact tk_refl
  · rw [← hs, sortI_length]; rfl
  · rw [hs]
theorem sorted_int_s (gf : FuncId) (caps : List AV) (kvs : List (Int × AV)) (hit : List HA) (it : IterT Try.prog gf caps (KNx kvs) (KE kvs) hit) (hl : kvs.length ≤ 1000000) : Triple Try.prog 43 [.fn (.func gf) caps] hit (Is (.sl 1 ((sortI (kvs.map Prod.fst)).map intA)) hit) :=
  ((sorted_int gf caps kvs hit it hl).mono (Q' := Own 3 1 ((sortI (kvs.map Prod.fst)).map intA) hit) fun q h' ⟨g, c, hq, hh⟩ => ⟨g, c, by rw [List.length_map]; exact hq, hh⟩).settle
end A
end Go.Proofs.Ytnabkchagjjjnaa
set_option linter.unusedVariables false
set_option linter.unusedSimpArgs false
namespace Go.Proofs.Ytnabkchagjjjnaa
namespace A
/- waymarkref24.Ints -/
def ref24_Ints_r6_T : Bool × List (List Nat × List Nat) := (true, [([], []), ([], []), ([0, 1], [0, 1]), ([2], [2]), ([], []), ([], []), ([4, 5], [4, 5]), ([6], [6]), ([3, 7], [3, 7])])
def ref24_Ints_r6_B : List Nat := [0, 0, 3, 7, 0, 0, 48, 112, 255]
theorem ref24_Ints_r6_t : Go.Proofs.YtnabkchagjjjnaaW.PrintLast.rtab .any (Go.Proofs.YtnabkchagjjjnaaW.PrintLast.opsOf Try.f30 6) = ref24_Ints_r6_T := by kernel_rfl
theorem ref24_Ints_r6_b : Go.Proofs.YtnabkchagjjjnaaW.PrintLast.waitsOk ref24_Ints_r6_T.2 ref24_Ints_r6_B = true := by kernel_rfl
set_option maxRecDepth 100000 in
set_option maxHeartbeats 400000 in
theorem ref24_Ints {a b : List Int} (ha : a.length < 9223372036854775807 := by omega) (hb : b.length < 9223372036854775807 := by omega) : Triple Try.prog 30 [.sl 1 (a.map intA), .sl 1 (b.map intA)] [] (Is (.v (.bool (decide (a = b)))) []) := by
  refine triple_of Try.func30 rfl (by kernel_rfl) rfl (by simp) ?_
  refine aSeq ?_
  refine aReg ?_
  refine sp pMa ?_
  refine oNil ?_
  refine aSeq ?_
  refine aSeq ?_
  refine aReg ?_
  refine sp pM ?_
  refine sp (by first | exact pLm sl_51 | exact pLs sl_51) ?_
  refine sp pM ?_
  refine sp (by first | exact pLm sl_51 | exact pLs sl_51) ?_
  refine sp pB ?_
  refine oNil ?_
  refine aCondNe rfl (fun c10 => ?_) (fun c10 => ?_)
  · skip
    refine aSeq ?_
    refine aReg ?_
    refine sp pMa ?_
    refine oNil ?_
    refine aRet ?_
    refine finIs rfl ?_
    rw [decide_eq_false (fun e => by subst e; simp at c10)]
    rfl
  · skip
    refine aSkip ?_
    refine aSeq ?_
    refine aSeq ?_
    refine aReg ?_
    refine sp pMa ?_
    refine oNil ?_
    refine aBlock ?_
    refine loopF (α := Nat) (kept := [(0, _), (1, _)]) (fun i => i ≤ a.length ∧ a.length = b.length ∧ a.take i = b.take i) (fun i => [(5, .int i)]) (fun i => []) (fun i => a.length - i) 0 ?_ ⟨gInt rfl (by first | rfl | omega | simp), rfl, rfl, trivial⟩ (by repeat constructor) ?_
    · skip
      exact ⟨by omega, by omega, rfl⟩
    · rintro i ⟨hi, hl, hv⟩
      refine aSeq ?_
      refine aSeq ?_
      refine aReg ?_
      refine sp pM ?_
      refine sp pM ?_
      refine sp (by first | exact pLm sl_51 | exact pLs sl_51) ?_
      refine sp pB ?_
      refine oNil ?_
      refine aCondDec rfl (fun c14 => ?_) (fun c14 => ?_)
      · skip
        refine aSkip ?_
        refine aSeq ?_
        refine aBlock ?_
        refine aSeq ?_
        refine aDrawT ref24_Ints_r6_t ref24_Ints_r6_b [] 9 #[false, false, false, false, false, false, false, false, false] (by kernel_rfl) rfl rfl (fun HT => ?_)
        refine dp HT 0 rfl pM ?_
        refine dp HT 1 rfl pM ?_
        first | refine dp HT 2 rfl (pIx es_51) ?_ | (refine obtDN 17 18 rfl rfl (by omega) (fun x19 hx19 => ?_); refine dp HT 2 rfl (pIs es_51 hx19) ?_) | (refine obtD 17 18 rfl rfl (by omega) (by omega) (fun x19 hx19 => ?_); refine dp HT 2 rfl (pIs es_51 hx19) ?_) | refine dp HT 2 rfl (pIo es_51) ?_
        refine dr HT 3 rfl (rS1 ty_3) ?_
        refine dp HT 4 rfl pM ?_
        refine dp HT 5 rfl pM ?_
        first | refine dp HT 6 rfl (pIx es_51) ?_ | (refine obtDN 21 22 rfl rfl (by omega) (fun x23 hx23 => ?_); refine dp HT 6 rfl (pIs es_51 hx23) ?_) | (refine obtD 21 22 rfl rfl (by omega) (by omega) (fun x23 hx23 => ?_); refine dp HT 6 rfl (pIs es_51 hx23) ?_) | refine dp HT 6 rfl (pIo es_51) ?_
        refine dr HT 7 rfl (rS1 ty_3) ?_
        refine dp HT 8 rfl pB ?_
        refine dE HT ?_
        clear HT
        refine aCondNe rfl (fun c25 => ?_) (fun c25 => ?_)
        · skip
          refine aSeq ?_
          refine aReg ?_
          refine sp pMa ?_
          refine oNil ?_
          refine aRet ?_
          refine finIs rfl ?_
          rw [decide_eq_false (fun e => by subst e; obtain rfl := Option.some.inj (hx19.symm.trans hx23); simp at c25)]
          rfl
        · skip
          refine aSkip ?_
          refine aReg ?_
          refine sp pM ?_
          refine sp pAd ?_
          refine sp pMa ?_
          refine oNil ?_
          refine ⟨i + 1, ?_, by (try dsimp only); omega, ⟨gInt rfl (by first | rfl | omega | simp), rfl, rfl, trivial⟩, _, (by repeat constructor)⟩
          have hxy : x19 = x23 := by assumption
          exact ⟨by omega, hl, by rw [take_step hx19, take_step hx23, hv, hxy]⟩
      · skip
        refine aExit rfl ?_
        refine aSeq ?_
        refine aReg ?_
        refine sp pMa ?_
        refine oNil ?_
        refine aRet ?_
        refine finIs rfl ?_
        rw [take_all (by omega), take_all (by omega)] at hv
        rw [decide_eq_true hv]
        rfl
end A
end Go.Proofs.Ytnabkchagjjjnaa
set_option linter.unusedVariables false
set_option linter.unusedSimpArgs false
set_option linter.unusedSectionVars false
namespace Go.Proofs.Ytnabkchagjjjnaa
namespace A
variable {P : Program} {N : Nat} {env : Env} {h : List HA} {K : Cont} {X : List (Nat × Cont)} {Rt : Cont}
theorem fill_sub {p q : Nat → Option (Nat × Nat)} (h : ∀ i x, p i = some x → q i = some x) : ∀ (l : List (Nat × Value)) (cs r : Array Value), Instr.fill p cs l = some r → Instr.fill q cs l = some r
  | [], cs, r, e => e
  | (i, v) :: l, cs, r, e => by
    rw [Instr.fill] at e ⊢
    cases hp : p i with
    | none => rw [hp] at e; cases e
    | some x =>
      rw [hp] at e
      rw [h i x hp]
      obtain ⟨off, size⟩ := x
      simp only at e ⊢
      split at e
      · cases e
      · rename_i hc
        rw [if_neg hc]
        exact fill_sub h l _ _ e
/-- '[n]T{..}' -/
theorem pBuildA {o : Oper} {t e : TypeId} {n m : Nat} {g : Bool} {parts : Array (Nat × Operand)} {z : Value} {l cs : List AV} (ho : o.op = .build t parts) (hu : P.underlying t = some (.array n e)) (he : tyOf P e = some (m, g)) (hz : zeroOf P t = some z) (hz1 : oneOf (.v z) = true) (hl : evs env (parts.toList.map (·.2)) = some l) (hone : l.all oneOf = true)
    (hf : fillAV ((List.range n).map fun i => (i * m, m)) (avCells (.v z)) ((parts.toList.map (·.1)).zip l) = some cs) : APure P N o env (.agg cs) := by
  intro F h a w s
  obtain ⟨e1, e2⟩ := evs_get s hl
  obtain ⟨z1, z2⟩ := rep_cells (Rep.v (F := F) (w := w) z)
  have hil : (parts.toList.map (·.1)).length = l.length := by rw [List.length_map, ← e1, List.length_map]
  obtain ⟨res, r1, r2, r3, r4⟩ := fill_rep (parts.toList.map (·.1)) l ((parts.toList.map (·.2)).map a.eval) (avCells (.v z)) z.cells cs hil (by rw [List.length_map, e1]) (fun i av x hi hx => ⟨e2 i av x hi hx, List.all_eq_true.1 hone av (List.mem_of_getElem? hi)⟩) z1 z2 (rep_one (Rep.v (F := F) (w := w) z) hz1) hf
  have hzip : (parts.map fun (i, x) => (i, a.eval x)).toList = (parts.toList.map (·.1)).zip ((parts.toList.map (·.2)).map a.eval) := by
    rw [List.map_map, Array.toList_map, List.zip_map']
    rfl
  have r5 := fill_sub (q := fun i => some (i * m, m)) (fun i x hx => by
    rw [List.getElem?_map] at hx
    obtain ⟨j, hj, rfl⟩ := Option.map_eq_some_iff.1 hx
    obtain ⟨hj1, rfl⟩ := List.getElem?_eq_some_iff.1 hj
    simp) _ _ _ r1
  refine ⟨.agg res, .agg cs res r2 r4 r3, fun w' => ?_⟩
  simp only [execOp, ho, Instr.build, Sem.run_bind, run_zero hz, Result.andThen_ok, run_underlying' hu, run_sizeOf he, hzip, r5, Sem.run_pure]
end A
end Go.Proofs.Ytnabkchagjjjnaa
set_option linter.unusedVariables false
set_option linter.unusedSimpArgs false
namespace Go.Proofs.Ytnabkchagjjjnaa
namespace A
theorem el_56 : elemOf Try.prog 56 = some (86, 3, 24) := by kernel_rfl
theorem sl_56 : isSl Try.prog 56 = true := by kernel_rfl
theorem st_86 : structPlaces Try.prog 86 = some [(0, 1), (1, 1), (2, 1)] := by kernel_rfl
theorem ty_86 : tyOf Try.prog 86 = some (3, true) := by kernel_rfl
theorem ua_91 : Try.prog.underlying 91 = some (.array 2 3) := by kernel_rfl
theorem um_88 : Try.prog.underlying 88 = some (.map 91 4) := by kernel_rfl
theorem us_56 : Try.prog.underlying 56 = some (.slice 86) := by kernel_rfl
theorem ze_4 : zeroOf Try.prog 4 = some (.bool false) := by kernel_rfl
theorem ze_86 : zeroOf Try.prog 86 = some (.agg #[.int .i64 0, .int .i64 0, .int .i64 0]) := by kernel_rfl
theorem ze_91 : zeroOf Try.prog 91 = some (.agg #[.int .i64 0, .int .i64 0]) := by kernel_rfl
structure Ed where
  a : Int
  b : Int
  c : Int
  deriving DecidableEq, Inhabited
def edC (e : Ed) : List AV := [.int e.a, .int e.b, .int e.c]
def edZ : Ed := ⟨0, 0, 0⟩
def k2K (p : Int × Int) : List Value := [.int .i64 p.1, .int .i64 p.2]
theorem kt_2 : KeyT Try.prog 91 k2K 2 [(0, .i), (1, .i)] where
  pln := by kernel_rfl
  wide := by kernel_rfl
  len := fun _ => rfl
  eq := fun a b => by
    obtain ⟨a1, a2⟩ := a
    obtain ⟨b1, b2⟩ := b
    simp [k2K, eqLeaves, eqLeaf, Prod.mk.injEq]
    rw [Bool.eq_iff_iff]
    simp
  one := fun _ => rfl
  bits := fun a => by simp [k2K, Instr.sameBits]
def edOf (a : Arc) : Ed := ⟨a.f, a.t, a.c⟩
def backB (l : List Arc) (f t : Int) : Bool := l.any fun b => b.t == f && b.f == t
def edP (l : List Arc) (a : Arc) : Bool := decide (a.f < a.t) && backB l a.f a.t
def edgesL (l : List Arc) : List Ed := (l.filter (edP l)).map edOf
def edgesM (l : List Arc) : List Ed := if arcsB none l then edgesL l else []
theorem back_step {l : List Arc} {i : Nat} {x : Arc} (h : l[i]? = some x) {f t : Int} : backB (l.take (i + 1)) f t = (backB (l.take i) f t || (x.t == f && x.f == t)) := by
  unfold backB
  rw [take_step h, List.any_append]
  simp
theorem filt_step {α : Type} {l : List α} {p : α → Bool} {i : Nat} {x : α} (h : l[i]? = some x) : (l.take (i + 1)).filter p = (l.take i).filter p ++ if p x then [x] else [] := by
  rw [take_step h, List.filter_append, List.filter_cons, List.filter_nil]
theorem edL_len (l : List Arc) (i : Nat) : (((l.take i).filter (edP l)).map edOf).length ≤ i := by
  rw [List.length_map]
  refine Nat.le_trans (List.length_filter_le _ _) ?_
  rw [List.length_take]
  omega
theorem edgesM_len (l : List Arc) : (edgesM l).length ≤ l.length := by
  unfold edgesM edgesL
  split
  · rw [List.length_map]; exact List.length_filter_le _ _
  · simp
/-- What the reference tells: an edge for each arc and each arc back. -/
def refEds (l : List Arc) (k : Nat) (a : Arc) : List Ed := ((l.take k).filter fun b => decide (a.f < a.t) && (b.f == a.t && b.t == a.f)).map fun _ => edOf a
def refEdges (l : List Arc) : List Ed := l.flatMap (refEds l l.length)
theorem refEds_len (l : List Arc) (k : Nat) (a : Arc) : (refEds l k a).length ≤ k := by
  unfold refEds
  rw [List.length_map]
  refine Nat.le_trans (List.length_filter_le _ _) ?_
  rw [List.length_take]
  omega
theorem refEds_step {l : List Arc} {k : Nat} {a b : Arc} (h : l[k]? = some b) : refEds l (k + 1) a = refEds l k a ++ if decide (a.f < a.t) && (b.f == a.t && b.t == a.f) then [edOf a] else [] := by
  unfold refEds
  rw [filt_step h, List.map_append]
  congr 1
  split <;> rfl
theorem one_of {α : Type} {l : List α} {p : α → Bool} (hn : l.Nodup) (hu : ∀ x ∈ l, ∀ y ∈ l, p x = true → p y = true → x = y) : (l.filter p).length = if l.any p then 1 else 0 := by
  induction l with
  | nil => rfl
  | cons x t ih =>
    have hn' := List.nodup_cons.1 hn
    have ih' := ih hn'.2 (fun a ha b hb => hu a (by simp [ha]) b (by simp [hb]))
    rw [List.filter_cons, List.any_cons]
    cases hp : p x with
    | false => simp only [Bool.false_or, Bool.false_eq_true, if_false]; exact ih'
    | true =>
      have hno : t.any p = false := by
        rw [Bool.eq_false_iff]
        intro h
        obtain ⟨y, hy, hy2⟩ := List.any_eq_true.1 h
        have := hu x (by simp) y (by simp [hy]) hp hy2
        subst this
        exact hn'.1 hy
      rw [hno] at ih'
      simp only [Bool.true_or, if_true, List.length_cons]
      simp at ih' ⊢
      exact ih'
theorem arcs_nodup {l : List Arc} (h : arcsB none l = true) : l.Nodup := by
  rw [List.nodup_iff_pairwise_ne]
  refine (arcsB_sorted h).imp (fun {a b} hlt e => ?_)
  subst e
  unfold ltA at hlt
  omega
theorem refEds_one {l : List Arc} (h : arcsB none l = true) (a : Arc) : refEds l l.length a = if edP l a then [edOf a] else [] := by
  have key := one_of (p := fun b : Arc => decide (a.f < a.t) && (b.f == a.t && b.t == a.f)) (arcs_nodup h) (fun x hx y hy h1 h2 => by
    simp at h1 h2
    exact arcs_uniq h hx hy (by omega) (by omega))
  have hany : (l.any fun b : Arc => decide (a.f < a.t) && (b.f == a.t && b.t == a.f)) = edP l a := by
    unfold edP backB
    rw [Bool.eq_iff_iff]
    simp only [List.any_eq_true, Bool.and_eq_true, decide_eq_true_eq, beq_iff_eq]
    constructor
    · rintro ⟨x, h1, h2, h3, h4⟩; exact ⟨h2, x, h1, h4, h3⟩
    · rintro ⟨h2, x, h1, h4, h3⟩; exact ⟨x, h1, h2, h3, h4⟩
  rw [hany] at key
  unfold refEds
  rw [List.take_length]
  cases he : edP l a with
  | false =>
    rw [he] at key
    simp only [Bool.false_eq_true, if_false] at key ⊢
    rw [List.eq_nil_of_length_eq_zero key]
    rfl
  | true =>
    rw [he] at key
    simp only [if_true] at key ⊢
    obtain ⟨z, hz⟩ := List.length_eq_one_iff.1 key
    rw [hz]
    rfl
theorem flat_filt {α β : Type} {p : α → Bool} {f : α → β} : ∀ {l : List α}, l.flatMap (fun a => if p a then [f a] else []) = (l.filter p).map f
  | [] => rfl
  | x :: t => by
    rw [List.flatMap_cons, flat_filt, List.filter_cons]
    split <;> simp
theorem edges_ref {l : List Arc} (h : arcsB none l = true) : refEdges l = edgesM l := by
  unfold refEdges edgesM edgesL
  rw [if_pos h, show refEds l l.length = fun a => if edP l a then [edOf a] else [] from funext (refEds_one h), flat_filt]
/- bridge.Edges -/
set_option maxRecDepth 100000 in
set_option maxHeartbeats 1000000 in
theorem bridge_Edges {l : List Arc} (hll : l.length ≤ 1000000 := by omega) : Triple Try.prog 23 [.sl 3 (l.map arcC)] [] (Own 86 3 ((edgesM l).map edC) []) := by
  refine triple_of Try.func23 rfl (by kernel_rfl) rfl (by simp) ?_
  refine aSeq ?_
  refine aReg ?_
  refine sp pMa ?_
  refine oNil ?_
  refine aSeq ?_
  refine aSeq ?_
  refine aReg ?_
  refine sp pM ?_
  refine sq ?_
  refine cv rfl rfl rfl (lents_refl _) graph_Check ?_
  refine sp pB ?_
  refine oNil ?_
  refine aCondNe rfl (fun c11 => ?_) (fun c11 => ?_)
  · skip
    refine aSeq ?_
    refine aWeak (weak_nil 86 3) ?_
    refine aReg ?_
    refine sp pMa ?_
    refine oNil ?_
    refine aRet ?_
    refine finOwn rfl ?_
    have hno : arcsB none l = false := by cases h : arcsB none l <;> simp_all
    unfold edgesM
    rw [hno]
    rfl
  · skip
    refine aSkip ?_
    refine aSeq ?_
    have hyes : arcsB none l = true := by cases h : arcsB none l <;> simp_all
    refine aReg ?_
    refine sq ?_
    refine qMK k2K boA rfl (fun b12 => ?_)
    refine sp pMa ?_
    refine oNil ?_
    refine aSeq ?_
    refine aSeq ?_
    refine aReg ?_
    refine sp pM ?_
    refine sp (by first | exact pLm sl_55 | exact pLs sl_55) ?_
    refine sp pM ?_
    refine oNil ?_
    refine aBlock ?_
    refine loopF (α := Nat × List ((Int × Int) × Bool)) (kept := [(0, _), (3, _), (13, _), (14, _)]) (fun (i, m) => i ≤ l.length ∧ ∀ p : Int × Int, (kGet m p).getD false = backB (l.take i) p.1 p.2) (fun (i, m) => [(15, .int i)]) (fun (i, m) => [.mapK b12 (kvKM k2K boA m)]) (fun (i, m) => l.length - i) (0, []) ?_ ⟨gInt rfl (by first | rfl | omega | simp), rfl, rfl, rfl, rfl, trivial⟩ (by repeat constructor) ?_
    · skip
      exact ⟨by omega, fun p => rfl⟩
    · rintro ⟨i, m⟩ ⟨hi, hm⟩
      refine aSeq ?_
      refine aReg ?_
      refine sp pB ?_
      refine oNil ?_
      refine aSeq ?_
      refine aCondDec rfl (fun c16 => ?_) (fun c16 => ?_)
      · skip
        refine aSkip ?_
        refine aSeq ?_
        refine aBlock ?_
        refine aSeq ?_
        obtain ⟨a, ha⟩ : ∃ z, l[i]? = some z := ⟨_, List.getElem?_eq_getElem (by omega)⟩
        refine aReg ?_
        first | refine sp (pIx es_55) ?_ | (refine obtSN 13 15 rfl rfl (by omega) (fun x17 hx17 => ?_); refine sp (pIs es_55 hx17) ?_) | (refine obtS 13 15 rfl rfl (by omega) (by omega) (fun x17 hx17 => ?_); refine sp (pIs es_55 hx17) ?_) | refine sp (pIo es_55) ?_
        refine sr (by first | exact rSW ty_90 rfl | exact rSA ty_90) ?_
        refine sq ?_
        refine qAlloc rfl rfl (by decide) ze_90 rfl (fun b5 => ?_)
        refine sa ?_
        refine oStW rfl rfl rfl rfl (by repeat constructor) ty_90 ?_
        refine oNil ?_
        refine aReg ?_
        refine sp pM ?_
        refine sp (pFb fd_90_1) ?_
        refine sr (rB1 ty_3) ?_
        refine sp (pFb fd_90_0) ?_
        refine sr (rB1 ty_3) ?_
        refine sp (pBuildA rfl ua_91 ty_3 ze_91 rfl rfl rfl rfl) ?_
        refine sa ?_
        refine oKP (kf := k2K) (c := boA) (a := (a.t, a.f)) (v := true) kt_2 rfl rfl rfl rfl um_88 ?_
        refine oNil ?_
        refine aReg ?_
        refine sp pAd ?_
        refine sp pM ?_
        refine oNil ?_
        refine ⟨(i + 1, _), ?_, by (try dsimp only); omega, ⟨gInt rfl (by first | rfl | omega | simp), rfl, rfl, rfl, rfl, trivial⟩, _, (by repeat constructor)⟩
        refine ⟨by omega, fun p => ?_⟩
        rw [back_step ha, kGet_put, ← hm p]
        split
        · rename_i he; subst he; simp
        · rename_i he; rw [Bool.or_eq_left_iff_imp.2]; intro h2; exfalso; simp at h2; exact he (Prod.ext h2.1.symm h2.2.symm)
      · skip
        refine aExit rfl ?_
        refine aSeq ?_
        rw [take_all (by omega)] at hm
        refine aWeak (weak_nil 86 3) ?_
        refine aReg ?_
        refine sp pMa ?_
        refine oNil ?_
        refine aSeq ?_
        refine aSeq ?_
        refine aReg ?_
        refine sp pM ?_
        refine sp (by first | exact pLm sl_55 | exact pLs sl_55) ?_
        refine sp pM ?_
        refine oNil ?_
        refine aBlock ?_
        refine loopF (α := Nat × List Ed × Option Nat × Nat) (kept := [(3, _), (26, _), (27, _)]) (fun (i, out, g, c) => i ≤ l.length ∧ out = ((l.take i).filter (edP l)).map edOf) (fun (i, out, g, c) => [(28, .int i), (6, .v (slV g out.length c))]) (fun (i, out, g, c) => [.sl g c 86 3 (out.map edC)]) (fun (i, out, g, c) => l.length - i) (0, [], _, _) ?_ ⟨gInt rfl (by first | rfl | omega | simp), gLen rfl (by first | rfl | simp | (simp; omega)), rfl, rfl, rfl, trivial⟩ (by repeat constructor) ?_
        · skip
          exact ⟨by omega, rfl⟩
        · rintro ⟨i, out, g, c⟩ ⟨hi, ho⟩
          refine aSeq ?_
          refine aReg ?_
          refine sp pB ?_
          refine oNil ?_
          refine aSeq ?_
          refine aCondDec rfl (fun c29 => ?_) (fun c29 => ?_)
          · skip
            refine aSkip ?_
            refine aSeq ?_
            refine aBlock ?_
            refine aSeq ?_
            obtain ⟨a, ha⟩ : ∃ z, l[i]? = some z := ⟨_, List.getElem?_eq_getElem (by omega)⟩
            refine aReg ?_
            first | refine sp (pIx es_55) ?_ | (refine obtSN 26 28 rfl rfl (by omega) (fun x30 hx30 => ?_); refine sp (pIs es_55 hx30) ?_) | (refine obtS 26 28 rfl rfl (by omega) (by omega) (fun x30 hx30 => ?_); refine sp (pIs es_55 hx30) ?_) | refine sp (pIo es_55) ?_
            refine sr (by first | exact rSW ty_90 rfl | exact rSA ty_90) ?_
            refine sq ?_
            refine qAlloc rfl rfl (by decide) ze_90 rfl (fun b8 => ?_)
            refine sa ?_
            refine oStW rfl rfl rfl rfl (by repeat constructor) ty_90 ?_
            refine oNil ?_
            refine aSeq ?_
            refine aReg ?_
            refine sp (pFb fd_90_0) ?_
            refine sr (rB1 ty_3) ?_
            refine sp (pFb fd_90_1) ?_
            refine sr (rB1 ty_3) ?_
            refine sp pB ?_
            refine sp pM ?_
            refine oSplitDec 37 rfl (fun c37 => ?_) (fun c37 => ?_)
            · skip
              refine gp pM ?_
              refine gp (pFb fd_90_0) ?_
              refine gr (rB1 ty_3) ?_
              refine gp (pFb fd_90_1) ?_
              refine gr (rB1 ty_3) ?_
              refine gp (pBuildA rfl ua_91 ty_3 ze_91 rfl rfl rfl rfl) ?_
              refine gr (rKG (kf := k2K) (c := boA) (a := (a.f, a.t)) kt_2 um_88 ze_4 false .refl) ?_
              rw [hm (a.f, a.t)]
              refine sp pK ?_
              refine oNil ?_
              refine aCond rfl (fun c45 => ?_) (fun c45 => ?_)
              · skip
                have hol := edL_len l i
                rw [← ho] at hol
                refine aReg ?_
                refine sp pM ?_
                refine sp (pFb fd_90_0) ?_
                refine sr (rB1 ty_3) ?_
                refine sp (pFb fd_90_1) ?_
                refine sr (rB1 ty_3) ?_
                refine sp (pFb fd_90_2) ?_
                refine sr (rB1 ty_3) ?_
                refine sp (pBuild rfl st_86 ze_86 rfl rfl rfl rfl) ?_
                refine sq ?_
                refine qLit (l := [_]) rfl rfl (by decide) us_56 ty_86 ze_86 rfl (by decide) (by decide) rfl rfl rfl (fun b54 => ?_)
                refine sa ?_
                refine oAppT ([edOf a] : List Ed) rfl rfl (by repeat constructor) (srcOwn rfl (by repeat constructor) rfl) el_56 sl_56 (fun g55 k55 => ?_)
                refine sp pMa ?_
                refine oNil ?_
                refine aReg ?_
                refine sp pAd ?_
                refine sp pM ?_
                refine oNil ?_
                refine ⟨(i + 1, _, _, _), ?_, by (try dsimp only); omega, ⟨gInt rfl (by first | rfl | omega | simp), gLen rfl (by first | rfl | simp | (simp; omega)), rfl, rfl, rfl, trivial⟩, _, (by repeat constructor)⟩
                refine ⟨by omega, ?_⟩
                rw [filt_step ha, List.map_append, ← ho]
                cases hp : edP l a <;> first
                  | (simp; done)
                  | (exfalso; unfold edP at hp; simp_all <;> omega)
              · skip
                refine aSkip ?_
                refine aReg ?_
                refine sp pAd ?_
                refine sp pM ?_
                refine oNil ?_
                refine ⟨(i + 1, _, _, _), ?_, by (try dsimp only); omega, ⟨gInt rfl (by first | rfl | omega | simp), gLen rfl (by first | rfl | simp | (simp; omega)), rfl, rfl, rfl, trivial⟩, _, (by repeat constructor)⟩
                refine ⟨by omega, ?_⟩
                rw [filt_step ha, List.map_append, ← ho]
                cases hp : edP l a <;> first
                  | (simp; done)
                  | (exfalso; unfold edP at hp; simp_all <;> omega)
            · skip
              refine gf ?_
              refine gf ?_
              refine gf ?_
              refine gf ?_
              refine gf ?_
              refine gf ?_
              refine gf ?_
              refine sp pK ?_
              refine oNil ?_
              refine aCondF rfl ?_
              refine aSkip ?_
              refine aReg ?_
              refine sp pAd ?_
              refine sp pM ?_
              refine oNil ?_
              refine ⟨(i + 1, _, _, _), ?_, by (try dsimp only); omega, ⟨gInt rfl (by first | rfl | omega | simp), gLen rfl (by first | rfl | simp | (simp; omega)), rfl, rfl, rfl, trivial⟩, _, (by repeat constructor)⟩
              refine ⟨by omega, ?_⟩
              rw [filt_step ha, List.map_append, ← ho]
              cases hp : edP l a <;> first
                | (simp; done)
                | (exfalso; unfold edP at hp; simp_all <;> omega)
          · skip
            refine aExit rfl ?_
            refine aSeq ?_
            refine aReg ?_
            refine sp pM ?_
            refine sp pMa ?_
            refine oNil ?_
            refine aRet ?_
            refine finOwn rfl ?_
            unfold edgesM
            rw [hyes, if_pos rfl, ho, take_all (by omega)]
            rfl
theorem bridge_Edges_s {l : List Arc} (hll : l.length ≤ 1000000 := by omega) : Triple Try.prog 23 [.sl 3 (l.map arcC)] [] (Is (.sl 3 ((edgesM l).map edC)) []) := (bridge_Edges (l := l) hll).settle
/- waymarkref39.Edges -/
def ref39_Edges_r8_T : Bool × List (List Nat × List Nat) := (true, [([], []), ([], []), ([0, 1], [0, 1]), ([2], [2]), ([3], [3]), ([], []), ([], []), ([5, 6], [5, 6]), ([7], [7]), ([8], [8]), ([4, 9], [4, 9]), ([10], [10]), ([11], [11]), ([11], [11]), ([12, 13, 11], [11, 12, 13]), ([14, 11], [11, 14]), ([15, 11], [11, 15]), ([11], [11]), ([11], [11]), ([17, 18, 11], [11, 17, 18]), ([19, 11], [11, 19]), ([20, 11], [11, 20]), ([16, 21, 11], [11, 16, 21]), ([11, 22], [11, 22]), ([23, 11], [23]), ([24], [24]), ([24], [24]), ([25, 26, 24], [24, 25, 26]), ([27, 24], [24, 27]), ([28, 24], [24, 28]), ([24], [24]), ([24], [24]), ([30, 31, 24], [24, 30, 31]), ([32, 24], [24, 32]), ([33, 24], [24, 33]), ([29, 34, 24], [24, 29, 34]), ([24, 35], [24, 35])])
def ref39_Edges_r8_B : List Nat := [0, 0, 3, 7, 15, 0, 0, 96, 224, 480, 1023, 2047, 4095, 4095, 16383, 32767, 65535, 4095, 4095, 397311, 921599, 1970175, 4194303, 8388607, 16777215, 33554431, 33554431, 134217727, 268435455, 536870911, 33554431, 33554431, 3254779903, 7549747199, 16139681791, 34359738367, 68719476735]
theorem ref39_Edges_r8_t : Go.Proofs.YtnabkchagjjjnaaW.PrintLast.rtab .any (Go.Proofs.YtnabkchagjjjnaaW.PrintLast.opsOf Try.f27 8) = ref39_Edges_r8_T := by kernel_rfl
theorem ref39_Edges_r8_b : Go.Proofs.YtnabkchagjjjnaaW.PrintLast.waitsOk ref39_Edges_r8_T.2 ref39_Edges_r8_B = true := by kernel_rfl
def ref39_Edges_r9_T : Bool × List (List Nat × List Nat) := (true, [([], []), ([], []), ([], []), ([1, 2], [1, 2]), ([3], [3]), ([4], [4]), ([], []), ([], []), ([6, 7], [6, 7]), ([8], [8]), ([9], [9]), ([], []), ([], []), ([11, 12], [11, 12]), ([13], [13]), ([14], [14]), ([5, 10, 15], [5, 10, 15]), ([16], [16]), ([0, 17], [0, 17]), ([18, 18, 0, 1, 2, 3, 4, 5, 6, 7, 8, 9, 10, 11, 12, 13, 14, 15, 16, 17, 18], [0, 18])])
def ref39_Edges_r9_B : List Nat := [0, 0, 0, 6, 14, 30, 0, 0, 192, 448, 960, 0, 0, 6144, 14336, 30720, 65534, 131070, 262143, 524287]
theorem ref39_Edges_r9_t : Go.Proofs.YtnabkchagjjjnaaW.PrintLast.rtab .any (Go.Proofs.YtnabkchagjjjnaaW.PrintLast.opsOf Try.f27 9) = ref39_Edges_r9_T := by kernel_rfl
theorem ref39_Edges_r9_b : Go.Proofs.YtnabkchagjjjnaaW.PrintLast.waitsOk ref39_Edges_r9_T.2 ref39_Edges_r9_B = true := by kernel_rfl
set_option maxRecDepth 100000 in
set_option maxHeartbeats 1000000 in
theorem ref39_Edges {l : List Arc} (hll : l.length ≤ 5000 := by omega) : Triple Try.prog 27 [.sl 3 (l.map arcC)] [] (Own 86 3 ((refEdges l).map edC) []) := by
  refine triple_of Try.func27 rfl (by kernel_rfl) rfl (by simp) ?_
  refine aSeq ?_
  refine aReg ?_
  refine sp pMa ?_
  refine oNil ?_
  refine aSeq ?_
  refine aReg ?_
  refine sq ?_
  refine qLit (l := []) rfl rfl (by decide) us_56 ty_86 ze_86 rfl (by decide) (by decide) rfl rfl rfl (fun b6 => ?_)
  refine sp pMa ?_
  refine oNil ?_
  refine aSeq ?_
  refine aSeq ?_
  refine aReg ?_
  refine sp pMa ?_
  refine oNil ?_
  refine aBlock ?_
  refine loopF (α := Nat × List Ed × Option Nat × Nat) (kept := [(0, _)]) (fun (i, base, g, c) => i ≤ l.length ∧ base = (l.take i).flatMap (refEds l l.length) ∧ base.length ≤ i * l.length) (fun (i, base, g, c) => [(4, .int i), (3, .v (slV g base.length c))]) (fun (i, base, g, c) => [.sl g c 86 3 (base.map edC)]) (fun (i, base, g, c) => l.length - i) (0, [], _, _) ?_ ⟨gInt rfl (by first | rfl | omega | simp), gLen rfl (by first | rfl | simp | (simp; omega)), rfl, trivial⟩ (by repeat constructor) ?_
  · skip
    exact ⟨by omega, rfl, by simp⟩
  · rintro ⟨i, base, g, c⟩ ⟨hi, hba, hb⟩
    refine aSeq ?_
    refine aSeq ?_
    refine aReg ?_
    refine sp pM ?_
    refine sp pM ?_
    refine sp (by first | exact pLm sl_55 | exact pLs sl_55) ?_
    refine sp pB ?_
    refine oNil ?_
    refine aCondDec rfl (fun c10 => ?_) (fun c10 => ?_)
    · skip
      refine aSkip ?_
      refine aSeq ?_
      refine aBlock ?_
      refine aSeq ?_
      obtain ⟨a, ha⟩ : ∃ z, l[i]? = some z := ⟨_, List.getElem?_eq_getElem (by omega)⟩
      refine aReg ?_
      refine sp pMa ?_
      refine oNil ?_
      refine aBlock ?_
      refine loopF (α := Nat × List Ed × Option Nat × Nat) (kept := [(0, _), (4, _)]) (fun (k, out, g, c) => k ≤ l.length ∧ out = base ++ refEds l k a) (fun (k, out, g, c) => [(5, .int k), (3, .v (slV g out.length c))]) (fun (k, out, g, c) => [.sl g c 86 3 (out.map edC)]) (fun (k, out, g, c) => l.length - k) (0, base, _, _) ?_ ⟨gInt rfl (by first | rfl | omega | simp), gLen rfl (by first | rfl | simp | (simp; omega)), rfl, rfl, trivial⟩ (by repeat constructor) ?_
      · skip
        exact ⟨by omega, by simp [refEds]⟩
      · rintro ⟨k, out, g, c⟩ ⟨hk, ho⟩
        refine aSeq ?_
        refine aSeq ?_
        refine aReg ?_
        refine sp pM ?_
        refine sp pM ?_
        refine sp (by first | exact pLm sl_55 | exact pLs sl_55) ?_
        refine sp pB ?_
        refine oNil ?_
        refine aCondDec rfl (fun c16 => ?_) (fun c16 => ?_)
        · skip
          refine aSkip ?_
          refine aSeq ?_
          refine aBlock ?_
          refine aSeq ?_
          obtain ⟨b1, hb1⟩ : ∃ z, l[k]? = some z := ⟨_, List.getElem?_eq_getElem (by omega)⟩
          refine aDrawT ref39_Edges_r8_t ref39_Edges_r8_b [] 37 #[false, false, false, false, false, false, false, false, false, false, false, false, false, false, false, false, false, false, false, false, false, false, false, false, false, false, false, false, false, false, false, false, false, false, false, false, false] (by kernel_rfl) rfl rfl (fun HT => ?_)
          refine dp HT 0 rfl pM ?_
          refine dp HT 1 rfl pM ?_
          first | refine dp HT 2 rfl (pIx es_55) ?_ | (refine obtDN 19 20 rfl rfl (by omega) (fun x21 hx21 => ?_); refine dp HT 2 rfl (pIs es_55 hx21) ?_) | (refine obtD 19 20 rfl rfl (by omega) (by omega) (fun x21 hx21 => ?_); refine dp HT 2 rfl (pIs es_55 hx21) ?_) | refine dp HT 2 rfl (pIo es_55) ?_
          refine dp HT 3 rfl (pFs fd_90_0) ?_
          refine dr HT 4 rfl (rS1 ty_3) ?_
          refine dp HT 5 rfl pM ?_
          refine dp HT 6 rfl pM ?_
          first | refine dp HT 7 rfl (pIx es_55) ?_ | (refine obtDN 24 25 rfl rfl (by omega) (fun x26 hx26 => ?_); refine dp HT 7 rfl (pIs es_55 hx26) ?_) | (refine obtD 24 25 rfl rfl (by omega) (by omega) (fun x26 hx26 => ?_); refine dp HT 7 rfl (pIs es_55 hx26) ?_) | refine dp HT 7 rfl (pIo es_55) ?_
          refine dp HT 8 rfl (pFs fd_90_1) ?_
          refine dr HT 9 rfl (rS1 ty_3) ?_
          refine dp HT 10 rfl pB ?_
          refine dp HT 11 rfl pM ?_
          refine dSplitDec 30 rfl (fun c30 => ?_) (fun c30 => ?_)
          · skip
            refine dpG HT 12 rfl pM ?_
            refine dpG HT 13 rfl pM ?_
            first | refine dpG HT 14 rfl (pIx es_55) ?_ | (refine obtDN 31 32 rfl rfl (by omega) (fun x33 hx33 => ?_); refine dpG HT 14 rfl (pIs es_55 hx33) ?_) | (refine obtD 31 32 rfl rfl (by omega) (by omega) (fun x33 hx33 => ?_); refine dpG HT 14 rfl (pIs es_55 hx33) ?_) | refine dpG HT 14 rfl (pIo es_55) ?_
            refine dpG HT 15 rfl (pFs fd_90_0) ?_
            refine drG HT 16 rfl (rS1 ty_3) ?_
            refine dpG HT 17 rfl pM ?_
            refine dpG HT 18 rfl pM ?_
            first | refine dpG HT 19 rfl (pIx es_55) ?_ | (refine obtDN 36 37 rfl rfl (by omega) (fun x38 hx38 => ?_); refine dpG HT 19 rfl (pIs es_55 hx38) ?_) | (refine obtD 36 37 rfl rfl (by omega) (by omega) (fun x38 hx38 => ?_); refine dpG HT 19 rfl (pIs es_55 hx38) ?_) | refine dpG HT 19 rfl (pIo es_55) ?_
            refine dpG HT 20 rfl (pFs fd_90_1) ?_
            refine drG HT 21 rfl (rS1 ty_3) ?_
            refine dpG HT 22 rfl pB ?_
            refine dp HT 23 rfl pK ?_
            refine dp HT 24 rfl pM ?_
            refine dSplitEq 43 rfl (fun c43 => ?_) (fun c43 => ?_)
            · skip
              refine dpG HT 25 rfl pM ?_
              refine dpG HT 26 rfl pM ?_
              first | refine dpG HT 27 rfl (pIx es_55) ?_ | (refine obtDN 44 45 rfl rfl (by omega) (fun x46 hx46 => ?_); refine dpG HT 27 rfl (pIs es_55 hx46) ?_) | (refine obtD 44 45 rfl rfl (by omega) (by omega) (fun x46 hx46 => ?_); refine dpG HT 27 rfl (pIs es_55 hx46) ?_) | refine dpG HT 27 rfl (pIo es_55) ?_
              refine dpG HT 28 rfl (pFs fd_90_1) ?_
              refine drG HT 29 rfl (rS1 ty_3) ?_
              refine dpG HT 30 rfl pM ?_
              refine dpG HT 31 rfl pM ?_
              first | refine dpG HT 32 rfl (pIx es_55) ?_ | (refine obtDN 49 50 rfl rfl (by omega) (fun x51 hx51 => ?_); refine dpG HT 32 rfl (pIs es_55 hx51) ?_) | (refine obtD 49 50 rfl rfl (by omega) (by omega) (fun x51 hx51 => ?_); refine dpG HT 32 rfl (pIs es_55 hx51) ?_) | refine dpG HT 32 rfl (pIo es_55) ?_
              refine dpG HT 33 rfl (pFs fd_90_0) ?_
              refine drG HT 34 rfl (rS1 ty_3) ?_
              refine dpG HT 35 rfl pB ?_
              refine dp HT 36 rfl pK ?_
              refine dE HT ?_
              clear HT
              refine aCondEq rfl (fun c55 => ?_) (fun c55 => ?_)
              · skip
                have hol : out.length ≤ 5000 * 5000 + 5000 := by
                  have := refEds_len l k a
                  rw [ho, List.length_append]
                  have : base.length ≤ 5000 * 5000 := by
                    refine Nat.le_trans hb ?_
                    exact Nat.mul_le_mul (by omega) (by omega)
                  omega
                refine aDrawT ref39_Edges_r9_t ref39_Edges_r9_b [18] 20 #[false, false, false, false, false, false, false, false, false, false, false, false, false, false, false, false, false, false, false, false] (by kernel_rfl) rfl rfl (fun HT => ?_)
                refine dp HT 0 rfl pM ?_
                refine dp HT 1 rfl pM ?_
                refine dp HT 2 rfl pM ?_
                first | refine dp HT 3 rfl (pIx es_55) ?_ | (refine obtDN 57 58 rfl rfl (by omega) (fun x59 hx59 => ?_); refine dp HT 3 rfl (pIs es_55 hx59) ?_) | (refine obtD 57 58 rfl rfl (by omega) (by omega) (fun x59 hx59 => ?_); refine dp HT 3 rfl (pIs es_55 hx59) ?_) | refine dp HT 3 rfl (pIo es_55) ?_
                refine dp HT 4 rfl (pFs fd_90_0) ?_
                refine dr HT 5 rfl (rS1 ty_3) ?_
                refine dp HT 6 rfl pM ?_
                refine dp HT 7 rfl pM ?_
                first | refine dp HT 8 rfl (pIx es_55) ?_ | (refine obtDN 62 63 rfl rfl (by omega) (fun x64 hx64 => ?_); refine dp HT 8 rfl (pIs es_55 hx64) ?_) | (refine obtD 62 63 rfl rfl (by omega) (by omega) (fun x64 hx64 => ?_); refine dp HT 8 rfl (pIs es_55 hx64) ?_) | refine dp HT 8 rfl (pIo es_55) ?_
                refine dp HT 9 rfl (pFs fd_90_1) ?_
                refine dr HT 10 rfl (rS1 ty_3) ?_
                refine dp HT 11 rfl pM ?_
                refine dp HT 12 rfl pM ?_
                first | refine dp HT 13 rfl (pIx es_55) ?_ | (refine obtDN 67 68 rfl rfl (by omega) (fun x69 hx69 => ?_); refine dp HT 13 rfl (pIs es_55 hx69) ?_) | (refine obtD 67 68 rfl rfl (by omega) (by omega) (fun x69 hx69 => ?_); refine dp HT 13 rfl (pIs es_55 hx69) ?_) | refine dp HT 13 rfl (pIo es_55) ?_
                refine dp HT 14 rfl (pFs fd_90_2) ?_
                refine dr HT 15 rfl (rS1 ty_3) ?_
                refine dp HT 16 rfl (pBuild rfl st_86 ze_86 rfl rfl rfl rfl) ?_
                refine dGo ?_
                refine e1 HT 17 rfl ?_
                refine qLit (l := [_]) rfl rfl (by decide) us_56 ty_86 ze_86 rfl (by decide) (by decide) rfl rfl rfl (fun b73 => ?_)
                refine eLast ?_
                refine f1 HT 18 rfl ?_
                refine oAppT ([edOf a] : List Ed) rfl rfl (by repeat constructor) (srcOwn rfl (by repeat constructor) rfl) el_56 sl_56 (fun g74 k74 => ?_)
                refine fp HT 19 rfl pMa ?_
                refine fE HT ?_
                clear HT
                refine aReg ?_
                refine sp pM ?_
                refine sp pAd ?_
                refine sp pMa ?_
                refine oNil ?_
                refine ⟨(k + 1, _, _, _), ?_, by (try dsimp only); omega, ⟨gInt rfl (by first | rfl | omega | simp), gLen rfl (by first | rfl | simp | (simp; omega)), rfl, rfl, trivial⟩, _, (by repeat constructor)⟩
                refine ⟨by omega, ?_⟩
                rw [refEds_step hb1, ← List.append_assoc, ← ho]
                cases hp : (decide (a.f < a.t) && (b1.f == a.t && b1.t == a.f)) <;> first
                  | (simp; done)
                  | (exfalso; simp_all <;> omega)
              · skip
                refine aSkip ?_
                refine aReg ?_
                refine sp pM ?_
                refine sp pAd ?_
                refine sp pMa ?_
                refine oNil ?_
                refine ⟨(k + 1, _, _, _), ?_, by (try dsimp only); omega, ⟨gInt rfl (by first | rfl | omega | simp), gLen rfl (by first | rfl | simp | (simp; omega)), rfl, rfl, trivial⟩, _, (by repeat constructor)⟩
                refine ⟨by omega, ?_⟩
                rw [refEds_step hb1, ← List.append_assoc, ← ho]
                cases hp : (decide (a.f < a.t) && (b1.f == a.t && b1.t == a.f)) <;> first
                  | (simp; done)
                  | (exfalso; simp_all <;> omega)
            · skip
              refine dS HT 25 rfl ?_
              refine dS HT 26 rfl ?_
              refine dS HT 27 rfl ?_
              refine dS HT 28 rfl ?_
              refine dS HT 29 rfl ?_
              refine dS HT 30 rfl ?_
              refine dS HT 31 rfl ?_
              refine dS HT 32 rfl ?_
              refine dS HT 33 rfl ?_
              refine dS HT 34 rfl ?_
              refine dS HT 35 rfl ?_
              refine dp HT 36 rfl pK ?_
              refine dE HT ?_
              clear HT
              refine aCondF rfl ?_
              refine aSkip ?_
              refine aReg ?_
              refine sp pM ?_
              refine sp pAd ?_
              refine sp pMa ?_
              refine oNil ?_
              refine ⟨(k + 1, _, _, _), ?_, by (try dsimp only); omega, ⟨gInt rfl (by first | rfl | omega | simp), gLen rfl (by first | rfl | simp | (simp; omega)), rfl, rfl, trivial⟩, _, (by repeat constructor)⟩
              refine ⟨by omega, ?_⟩
              rw [refEds_step hb1, ← List.append_assoc, ← ho]
              cases hp : (decide (a.f < a.t) && (b1.f == a.t && b1.t == a.f)) <;> first
                | (simp; done)
                | (exfalso; simp_all <;> omega)
          · skip
            refine dS HT 12 rfl ?_
            refine dS HT 13 rfl ?_
            refine dS HT 14 rfl ?_
            refine dS HT 15 rfl ?_
            refine dS HT 16 rfl ?_
            refine dS HT 17 rfl ?_
            refine dS HT 18 rfl ?_
            refine dS HT 19 rfl ?_
            refine dS HT 20 rfl ?_
            refine dS HT 21 rfl ?_
            refine dS HT 22 rfl ?_
            refine dp HT 23 rfl pK ?_
            refine dp HT 24 rfl pM ?_
            refine dS HT 25 rfl ?_
            refine dS HT 26 rfl ?_
            refine dS HT 27 rfl ?_
            refine dS HT 28 rfl ?_
            refine dS HT 29 rfl ?_
            refine dS HT 30 rfl ?_
            refine dS HT 31 rfl ?_
            refine dS HT 32 rfl ?_
            refine dS HT 33 rfl ?_
            refine dS HT 34 rfl ?_
            refine dS HT 35 rfl ?_
            refine dp HT 36 rfl pK ?_
            refine dE HT ?_
            clear HT
            refine aCondF rfl ?_
            refine aSkip ?_
            refine aReg ?_
            refine sp pM ?_
            refine sp pAd ?_
            refine sp pMa ?_
            refine oNil ?_
            refine ⟨(k + 1, _, _, _), ?_, by (try dsimp only); omega, ⟨gInt rfl (by first | rfl | omega | simp), gLen rfl (by first | rfl | simp | (simp; omega)), rfl, rfl, trivial⟩, _, (by repeat constructor)⟩
            refine ⟨by omega, ?_⟩
            rw [refEds_step hb1, ← List.append_assoc, ← ho]
            cases hp : (decide (a.f < a.t) && (b1.f == a.t && b1.t == a.f)) <;> first
              | (simp; done)
              | (exfalso; simp_all <;> omega)
        · skip
          refine aExit rfl ?_
          refine aReg ?_
          refine sp pM ?_
          refine sp pAd ?_
          refine sp pMa ?_
          refine oNil ?_
          refine ⟨(i + 1, _, _, _), ?_, by (try dsimp only); omega, ⟨gInt rfl (by first | rfl | omega | simp), gLen rfl (by first | rfl | simp | (simp; omega)), rfl, trivial⟩, _, (by repeat constructor)⟩
          obtain rfl : k = l.length := by omega
          have hbe := refEds_len l l.length a
          refine ⟨by omega, ?_, ?_⟩
          · rw [ho, take_step ha, List.flatMap_append, ← hba]; simp
          · rw [ho, List.length_append, Nat.succ_mul]; omega
    · skip
      refine aExit rfl ?_
      refine aSeq ?_
      refine aReg ?_
      refine sp pM ?_
      refine sp pMa ?_
      refine oNil ?_
      refine aRet ?_
      refine finOwn rfl ?_
      rw [hba, take_all (by omega)]
      rfl
end A
end Go.Proofs.Ytnabkchagjjjnaa
set_option linter.unusedVariables false
set_option linter.unusedSimpArgs false
namespace Go.Proofs.Ytnabkchagjjjnaa
namespace A
/-! ### What hangs together -/
inductive Conn (E : Ed → Prop) : Int → Int → Prop
  | refl (n : Int) : Conn E n n
  | up {n m : Int} {e : Ed} : Conn E n m → E e → e.a = m → Conn E n e.b
  | down {n m : Int} {e : Ed} : Conn E n m → E e → e.b = m → Conn E n e.a
theorem Conn.mono {E E' : Ed → Prop} (h : ∀ e, E e → E' e) {a b : Int} (k : Conn E a b) : Conn E' a b := by
  induction k with
  | refl => exact .refl _
  | up _ he hm ih => exact .up ih (h _ he) hm
  | down _ he hm ih => exact .down ih (h _ he) hm
theorem Conn.trans {E : Ed → Prop} {a b c : Int} (k : Conn E a b) (k2 : Conn E b c) : Conn E a c := by
  induction k2 with
  | refl => exact k
  | up _ he hm ih => exact .up ih he hm
  | down _ he hm ih => exact .down ih he hm
theorem Conn.edge {E : Ed → Prop} {e : Ed} (h : E e) : Conn E e.a e.b := .up (.refl _) h rfl
theorem Conn.edge' {E : Ed → Prop} {e : Ed} (h : E e) : Conn E e.b e.a := .down (.refl _) h rfl
theorem Conn.symm {E : Ed → Prop} {a b : Int} (k : Conn E a b) : Conn E b a := by
  induction k with
  | refl => exact .refl _
  | up _ he hm ih => subst hm; exact (Conn.edge' he).trans ih
  | down _ he hm ih => subst hm; exact (Conn.edge he).trans ih
/-! ### Nodes reached, by rounds -/
def rst (ok : Ed → Bool) (f : Int → Bool) (e : Ed) : Int → Bool := if ok e && (f e.a != f e.b) then updF (updF f e.a true) e.b true else f
def rnd (ok : Ed → Bool) (l : List Ed) (f : Int → Bool) : Int → Bool := l.foldl (rst ok) f
def sat (ok : Ed → Bool) (l : List Ed) : Nat → (Int → Bool) → Int → Bool
  | 0, f => f
  | k + 1, f => sat ok l k (rnd ok l f)
def reachF (ok : Ed → Bool) (l : List Ed) (n : Int) (b : Bool) : Int → Bool := sat ok l 65 (updF (fun _ => false) n b)
theorem sat_fix {ok : Ed → Bool} {l : List Ed} {f : Int → Bool} (h : rnd ok l f = f) : ∀ k, sat ok l k f = f
  | 0 => rfl
  | k + 1 => by rw [sat, h]; exact sat_fix h k
theorem rst_le {ok : Ed → Bool} {f : Int → Bool} {e : Ed} {i : Int} (h : f i = true) : rst ok f e i = true := by
  unfold rst
  split
  · simp only [updF]
    split
    · rfl
    · split
      · rfl
      · exact h
  · exact h
theorem rnd_le {ok : Ed → Bool} : ∀ {l : List Ed} {f : Int → Bool} {i : Int}, f i = true → rnd ok l f i = true
  | [], _, _, h => h
  | e :: l, f, i, h => rnd_le (l := l) (rst_le h)
theorem rst_eq {ok : Ed → Bool} {f : Int → Bool} {e : Ed} (h : ∀ i, rst ok f e i = true → f i = true) (ho : ok e = true) : f e.a = f e.b := by
  by_cases hc : f e.a = f e.b
  · exact hc
  · have he : rst ok f e = updF (updF f e.a true) e.b true := by
      unfold rst
      rw [if_pos]
      simp only [ho, Bool.true_and, bne_iff_ne, ne_eq]
      exact hc
    have h1 := h e.a (by rw [he]; simp only [updF]; split <;> simp)
    have h2 := h e.b (by rw [he]; simp)
    rw [h1, h2]
theorem rnd_closed {ok : Ed → Bool} : ∀ {l : List Ed} {f : Int → Bool}, (∀ i, rnd ok l f i = true → f i = true) → ∀ e ∈ l, ok e = true → f e.a = f e.b
  | [], _, _, e, he, _ => by simp at he
  | x :: l, f, h, e, he, ho => by
    have h1 : ∀ i, rst ok f x i = true → f i = true := fun i hi => h i (rnd_le (l := l) hi)
    have h2 : rst ok f x = f := by
      funext i
      cases hf : f i with
      | true => exact rst_le hf
      | false =>
        cases hr : rst ok f x i with
        | false => rfl
        | true => have := h1 i hr; rw [hf] at this; cases this
    rcases List.mem_cons.1 he with rfl | he
    · exact rst_eq h1 ho
    · refine rnd_closed (l := l) (fun i hi => h i ?_) e he ho
      show rnd ok l (rst ok f x) i = true
      rw [h2]
      exact hi
theorem rnd_sound {ok : Ed → Bool} {E : Ed → Prop} {n : Int} : ∀ {l : List Ed} {f : Int → Bool}, (∀ e ∈ l, ok e = true → E e) → (∀ i, f i = true → Conn E n i) → ∀ i, rnd ok l f i = true → Conn E n i
  | [], _, _, h, i, hi => h i hi
  | e :: l, f, hE, h, i, hi => by
    refine rnd_sound (l := l) (fun x hx => hE x (by simp [hx])) (fun j hj => ?_) i hi
    unfold rst at hj
    split at hj
    · rename_i hc
      simp only [Bool.and_eq_true, bne_iff_ne, ne_eq] at hc
      have he := hE e (by simp) hc.1
      have hab : Conn E n e.a ∧ Conn E n e.b := by
        cases ha : f e.a with
        | true => exact ⟨h _ ha, (h _ ha).trans (Conn.edge he)⟩
        | false =>
          cases hb : f e.b with
          | true => exact ⟨(h _ hb).trans (Conn.edge' he), h _ hb⟩
          | false => rw [ha, hb] at hc; exact absurd rfl hc.2
      simp only [updF] at hj
      split at hj
      · rename_i hj2; rw [hj2]; exact hab.2
      · split at hj
        · rename_i hj2; rw [hj2]; exact hab.1
        · exact h j hj
    · exact h j hj
def cntF (f : Int → Bool) : Nat := (List.range 65).countP fun (i : Nat) => f (i : Int)
theorem countP_lt {p q : Nat → Bool} : ∀ {l : List Nat} {i : Nat}, (∀ j, p j = true → q j = true) → i ∈ l → p i = false → q i = true → l.countP p < l.countP q
  | [], _, _, h, _, _ => by simp at h
  | x :: l, i, hm, hi, hp, hq => by
    have hle : l.countP p ≤ l.countP q := List.countP_mono_left (fun j _ => hm j)
    rw [List.countP_cons, List.countP_cons]
    rcases List.mem_cons.1 hi with rfl | hi
    · rw [hp, hq]; simp; omega
    · have := countP_lt hm hi hp hq
      cases hx : p x with
      | true => rw [hm x hx]; simp; omega
      | false => cases q x <;> simp <;> omega
theorem cntF_le (f : Int → Bool) : cntF f ≤ 65 := by
  have := List.countP_le_length (p := fun i : Nat => f (i : Int)) (l := List.range 65)
  simpa [cntF] using this
def EOk (e : Ed) : Prop := 1 ≤ e.a ∧ e.a ≤ 64 ∧ 1 ≤ e.b ∧ e.b ≤ 64
theorem rnd_newE {ok : Ed → Bool} : ∀ {l : List Ed} {f : Int → Bool} {i : Int}, (∀ e ∈ l, EOk e) → f i = false → rnd ok l f i = true → 0 ≤ i ∧ i < 65
  | [], f, i, _, h, h2 => by rw [show rnd ok [] f i = f i from rfl, h] at h2; cases h2
  | e :: l, f, i, hl, h, h2 => by
    cases hr : rst ok f e i with
    | false => exact rnd_newE (l := l) (fun x hx => hl x (by simp [hx])) hr h2
    | true =>
      have he := hl e (by simp)
      unfold EOk at he
      unfold rst at hr
      split at hr
      · simp only [updF] at hr
        split at hr
        · omega
        · split at hr
          · omega
          · rw [h] at hr; cases hr
      · rw [h] at hr; cases hr
theorem sat_done {ok : Ed → Bool} {l : List Ed} (hl : ∀ e ∈ l, EOk e) : ∀ (k : Nat) (f : Int → Bool), 65 < cntF f + k → rnd ok l (sat ok l k f) = sat ok l k f
  | 0, f, h => by have := cntF_le f; omega
  | k + 1, f, h => by
    by_cases hc : rnd ok l f = f
    · rw [sat_fix hc, hc]
    · refine sat_done hl k (rnd ok l f) ?_
      have : ∃ i, f i = false ∧ rnd ok l f i = true := Classical.byContradiction fun hn => hc (by
        funext i
        cases hf : f i with
        | true => exact rnd_le hf
        | false =>
          cases hr : rnd ok l f i with
          | false => rfl
          | true => exact absurd ⟨i, hf, hr⟩ hn)
      obtain ⟨i, h1, h2⟩ := this
      have hi := rnd_newE hl h1 h2
      have : cntF f < cntF (rnd ok l f) := countP_lt (p := fun i : Nat => f (i : Int)) (q := fun i : Nat => rnd ok l f (i : Int)) (i := i.toNat) (fun j => rnd_le) (List.mem_range.2 (by omega)) (by rw [Int.toNat_of_nonneg hi.1]; exact h1) (by rw [Int.toNat_of_nonneg hi.1]; exact h2)
      omega
theorem sat_sound {ok : Ed → Bool} {E : Ed → Prop} {n : Int} {l : List Ed} (hE : ∀ e ∈ l, ok e = true → E e) : ∀ (k : Nat) {f : Int → Bool}, (∀ i, f i = true → Conn E n i) → ∀ i, sat ok l k f i = true → Conn E n i
  | 0, _, h, i, hi => h i hi
  | k + 1, f, h, i, hi => sat_sound hE k (f := rnd ok l f) (rnd_sound hE h) i hi
theorem sat_le {ok : Ed → Bool} {l : List Ed} : ∀ (k : Nat) {f : Int → Bool} {i : Int}, f i = true → sat ok l k f i = true
  | 0, _, _, h => h
  | k + 1, f, i, h => sat_le k (rnd_le h)
theorem reachF_iff {ok : Ed → Bool} {l : List Ed} (hl : ∀ e ∈ l, EOk e) {n : Int} (h0 : 0 ≤ n) (h1 : n ≤ 64) {i : Int} : reachF ok l n true i = true ↔ Conn (fun e => e ∈ l ∧ ok e = true) n i := by
  have hn : updF (fun _ => false) n true n = true := by simp
  constructor
  · intro h
    refine sat_sound (fun e he ho => ⟨he, ho⟩) 65 (fun j hj => ?_) i h
    simp only [updF] at hj
    split at hj
    · rename_i hj2; rw [hj2]; exact .refl _
    · cases hj
  · intro h
    have hc : 0 < cntF (updF (fun _ => false) n true) := by
      unfold cntF
      rw [List.countP_pos_iff]
      exact ⟨n.toNat, List.mem_range.2 (by omega), by rw [Int.toNat_of_nonneg h0]; exact hn⟩
    have hd := sat_done (ok := ok) hl 65 (updF (fun _ => false) n true) (by omega)
    have hcl := rnd_closed (ok := ok) (l := l) (f := reachF ok l n true) (fun i hi => by rw [reachF, hd] at hi; exact hi)
    induction h with
    | refl => exact sat_le 65 hn
    | up _ he hm ih => subst hm; rw [← hcl _ he.1 he.2]; exact ih
    | down _ he hm ih => subst hm; rw [hcl _ he.1 he.2]; exact ih
theorem Conn.range {E : Ed → Prop} (hE : ∀ e, E e → EOk e) {a b : Int} (k : Conn E a b) : a = b ∨ (1 ≤ b ∧ b ≤ 64) := by
  cases k with
  | refl => exact .inl rfl
  | up _ he _ => have := hE _ he; unfold EOk at this; right; omega
  | down _ he _ => have := hE _ he; unfold EOk at this; right; omega
theorem mPut_new {β : Type} {n : Int} {v : β} : ∀ {m : List (Int × β)}, n ∉ mKeys m → mPut m n v = m ++ [(n, v)]
  | [], _ => rfl
  | (k, u) :: t, h => by
    have h1 : ¬ n = k := fun e => h (by rw [e]; simp [mKeys])
    have h2 : n ∉ mKeys t := fun e => h (by simp [mKeys] at e ⊢; exact .inr e)
    simp only [mPut]
    rw [if_neg h1, mPut_new h2]
    rfl
theorem mGet_app {β : Type} {n : Int} {v : β} : ∀ {m k : List (Int × β)}, mGet m n = some v → mGet (m ++ k) n = some v
  | [], _, h => by simp [mGet] at h
  | (j, u) :: t, k, h => by
    simp only [mGet, List.cons_append] at h ⊢
    by_cases e : n = j
    · rw [if_pos e] at h ⊢; exact h
    · rw [if_neg e] at h ⊢; exact mGet_app h
end A
end Go.Proofs.Ytnabkchagjjjnaa
set_option linter.unusedVariables false
set_option linter.unusedSimpArgs false
namespace Go.Proofs.Ytnabkchagjjjnaa
namespace A
theorem ar_104 : arrOf Try.prog 104 = some (65, 1) := by kernel_rfl
theorem bo_4 : isBoolT Try.prog 4 = true := by kernel_rfl
theorem eq_86 : eqType Try.prog 86 = some [(0, .i), (1, .i), (2, .i)] := by kernel_rfl
theorem es_56 : elemSize Try.prog 56 = some 3 := by kernel_rfl
theorem fd_86_0 : fieldOf Try.prog 86 0 = some (0, 1, false) := by kernel_rfl
theorem fd_86_1 : fieldOf Try.prog 86 1 = some (1, 1, false) := by kernel_rfl
theorem ty_104 : tyOf Try.prog 104 = some (65, true) := by kernel_rfl
theorem ty_4 : tyOf Try.prog 4 = some (1, false) := by kernel_rfl
theorem ua_104 : Try.prog.underlying 104 = some (.array 65 4) := by kernel_rfl
theorem ze_104 : zeroOf Try.prog 104 = some (.agg #[.bool false, .bool false, .bool false, .bool false, .bool false, .bool false, .bool false, .bool false, .bool false, .bool false, .bool false, .bool false, .bool false, .bool false, .bool false, .bool false, .bool false, .bool false, .bool false, .bool false, .bool false, .bool false, .bool false, .bool false, .bool false, .bool false, .bool false, .bool false, .bool false, .bool false, .bool false, .bool false, .bool false, .bool false, .bool false, .bool false, .bool false, .bool false, .bool false, .bool false, .bool false, .bool false, .bool false, .bool false, .bool false, .bool false, .bool false, .bool false, .bool false, .bool false, .bool false, .bool false, .bool false, .bool false, .bool false, .bool false, .bool false, .bool false, .bool false, .bool false, .bool false, .bool false, .bool false, .bool false, .bool false]) := by kernel_rfl
def okE (w : Ed) (gone : Int) (e : Ed) : Bool := !(((e.a == w.a && (e.b == w.b && (e.c == w.c && true))) || e.a == gone) || e.b == gone)
/- waymarkref39.Reached -/
def ref39_Reached_r13_T : Bool × List (List Nat × List Nat) := (true, [([], []), ([0], [0]), ([1], [1]), ([2], [2]), ([], []), ([4], [4]), ([5], [5]), ([6], [6]), ([3, 7], [3, 7])])
def ref39_Reached_r13_B : List Nat := [0, 1, 3, 7, 0, 16, 48, 112, 255]
theorem ref39_Reached_r13_t : Go.Proofs.YtnabkchagjjjnaaW.PrintLast.rtab .any (Go.Proofs.YtnabkchagjjjnaaW.PrintLast.opsOf Try.f56 13) = ref39_Reached_r13_T := by kernel_rfl
theorem ref39_Reached_r13_b : Go.Proofs.YtnabkchagjjjnaaW.PrintLast.waitsOk ref39_Reached_r13_T.2 ref39_Reached_r13_B = true := by kernel_rfl
def ref39_Reached_r14_T : Bool × List (List Nat × List Nat) := (true, [([], []), ([0], [0]), ([], []), ([2], [2]), ([1, 0, 1], [1]), ([4, 0, 1], [4]), ([3, 0, 1, 2, 3, 4, 5], [3]), ([6, 5, 0, 1, 2, 3, 4, 5], [6])])
def ref39_Reached_r14_B : List Nat := [0, 1, 0, 4, 3, 19, 63, 127]
theorem ref39_Reached_r14_t : Go.Proofs.YtnabkchagjjjnaaW.PrintLast.rtab .any (Go.Proofs.YtnabkchagjjjnaaW.PrintLast.opsOf Try.f56 14) = ref39_Reached_r14_T := by kernel_rfl
theorem ref39_Reached_r14_b : Go.Proofs.YtnabkchagjjjnaaW.PrintLast.waitsOk ref39_Reached_r14_T.2 ref39_Reached_r14_B = true := by kernel_rfl
set_option maxRecDepth 100000 in
set_option maxHeartbeats 2000000 in
theorem ref39_Reached {l : List Ed} {w : Ed} {n gone : Int} (hl : l.length ≤ 1000000 := by omega) (hok : ∀ e ∈ l, EOk e) (h0 : 0 ≤ n := by omega) (h1 : n ≤ 64 := by omega) : Triple Try.prog 56 [.sl 3 (l.map edC), .int n, .agg (edC w), .int gone] [] (Is (.agg (arrF 65 (fun x => [boA x]) (reachF (okE w gone) l n (n != gone)))) []) := by
  refine triple_ofR Try.func56 rfl (by kernel_rfl) rfl (by simp) ?_
  refine aSeq ?_
  refine aReg ?_
  refine sq ?_
  refine qBox rfl rfl (by decide) rfl rfl (fun b6 => ?_)
  refine sq ?_
  refine qAlloc rfl rfl (by decide) ze_104 rfl (fun b8 => ?_)
  refine oNil ?_
  refine aSeq ?_
  refine aReg ?_
  refine sp (pBuildA0 rfl ua_104 ty_4 ze_104 rfl) ?_
  refine sq ?_
  refine qAlloc rfl rfl (by decide) ze_104 rfl (fun b9 => ?_)
  refine sa ?_
  refine oStW rfl rfl rfl rfl (by repeat constructor) ty_104 ?_
  refine oNil ?_
  refine aSeq ?_
  refine aWeak (weak_box (b := b9) (cs' := arrF 65 (fun x => [boA x]) (fun _ => false)) (by repeat constructor) (by kernel_rfl)) ?_
  refine aReg ?_
  refine sp pM ?_
  refine sp pM ?_
  refine sp pM ?_
  refine sp pB ?_
  refine sp (pIa ar_104) ?_
  refine sa ?_
  first | refine oAr rfl rfl rfl (by repeat constructor) ty_4 ?_ | refine oArL rfl rfl rfl (by repeat constructor) ty_4 ?_ | refine oArR rfl rfl rfl (by repeat constructor) (by first | rfl | exact arrF_len one_len) ty_4 ?_ | refine oStB rfl rfl rfl rfl (by repeat constructor) ty_4 rfl (Nat.le_of_ble_eq_true rfl) rfl ?_
  refine oNil ?_
  refine aSeq ?_
  refine aReg ?_
  refine sp pMa ?_
  refine oNil ?_
  refine aSeq ?_
  refine aSeq ?_
  refine aReg ?_
  refine sp pMa ?_
  refine oNil ?_
  refine aBlock ?_
  refine loopF (α := Nat × (Int → Bool) × Bool) (kept := [(0, _), (3, _), (6, _), (8, _), (9, _)]) (fun (r, f, t) => r ≤ 65 ∧ sat (okE w gone) l (65 - r) f = reachF (okE w gone) l n (n != gone) ∧ (t = false → rnd (okE w gone) l f = f)) (fun (r, f, t) => [(11, .int r), (10, .v (.bool t))]) (fun (r, f, t) => [.box b9 (arrF 65 (fun x => [boA x]) f)]) (fun (r, f, t) => 65 - r) (0, _, true) ?_ ⟨gInt rfl (by first | rfl | omega | simp), rfl, rfl, rfl, rfl, rfl, rfl, trivial⟩ (by repeat constructor) ?_
  · skip
    exact ⟨by omega, rfl, fun h => by cases h⟩
  · rintro ⟨r, f, t⟩ ⟨hr, hsat, hfx⟩
    refine aSeq ?_
    refine aSeq ?_
    refine aReg ?_
    refine sp pM ?_
    refine sp pB ?_
    refine sp pM ?_
    refine oSplitDec 22 rfl (fun c22 => ?_) (fun c22 => ?_)
    · skip
      refine gp pM ?_
      refine sp pK ?_
      refine oNil ?_
      refine aCond rfl (fun c24 => ?_) (fun c24 => ?_)
      · skip
        refine aSkip ?_
        refine aSeq ?_
        refine aBlock ?_
        refine aSeq ?_
        refine aReg ?_
        refine sp pMa ?_
        refine oNil ?_
        refine aSeq ?_
        refine aReg ?_
        refine sp pMa ?_
        refine oNil ?_
        refine aBlock ?_
        refine loopF (α := Nat × (Int → Bool) × Bool) (kept := [(0, _), (3, _), (6, _), (8, _), (9, _), (11, _)]) (fun (i, g, t) => i ≤ l.length ∧ (l.drop i).foldl (rst (okE w gone)) g = rnd (okE w gone) l f ∧ (t = false → g = f)) (fun (i, g, t) => [(12, .int i), (10, .v (.bool t))]) (fun (i, g, t) => [.box b9 (arrF 65 (fun x => [boA x]) g)]) (fun (i, g, t) => l.length - i) (0, f, false) ?_ ⟨gInt rfl (by first | rfl | omega | simp), rfl, rfl, rfl, rfl, rfl, rfl, rfl, trivial⟩ (by repeat constructor) ?_
        · skip
          exact ⟨by omega, rfl, fun _ => rfl⟩
        · rintro ⟨i, g, t⟩ ⟨hi, hv, hch⟩
          refine aSeq ?_
          refine aSeq ?_
          refine aReg ?_
          refine sp pM ?_
          refine sp pM ?_
          refine sp (by first | exact pLm sl_56 | exact pLs sl_56) ?_
          refine sp pB ?_
          refine oNil ?_
          refine aCondDec rfl (fun c30 => ?_) (fun c30 => ?_)
          · skip
            refine aSkip ?_
            refine aSeq ?_
            refine aBlock ?_
            refine aSeq ?_
            refine aReg ?_
            refine sp pM ?_
            refine sp pM ?_
            first | refine sp (pIx es_56) ?_ | (refine obtSN 33 34 rfl rfl (by omega) (fun x35 hx35 => ?_); refine sp (pIs es_56 hx35) ?_) | (refine obtS 33 34 rfl rfl (by omega) (by omega) (fun x35 hx35 => ?_); refine sp (pIs es_56 hx35) ?_) | refine sp (pIo es_56) ?_
            refine sr (by first | exact rSW ty_86 rfl | exact rSA ty_86) ?_
            refine sq ?_
            refine qAlloc rfl rfl (by decide) ze_86 rfl (fun b13 => ?_)
            refine sa ?_
            refine oStW rfl rfl rfl rfl (by repeat constructor) ty_86 ?_
            refine oNil ?_
            refine aSeq ?_
            refine aSeq ?_
            have hxk := hok x35 (List.mem_of_getElem? hx35)
            unfold EOk at hxk
            refine aReg ?_
            refine sr (by first | exact rBWa ty_86 | exact rBW ty_86 | exact rBA ty_86) ?_
            refine sr (by first | exact rBWa ty_86 | exact rBW ty_86 | exact rBA ty_86) ?_
            refine sp (pEqAe eq_86) ?_
            refine sp pM ?_
            refine oSplit 40 rfl (fun c40 => ?_) (fun c40 => ?_)
            · skip
              refine gf ?_
              refine gf ?_
              refine gf ?_
              refine gf ?_
              refine sp pK ?_
              refine sp pM ?_
              refine gf ?_
              refine gf ?_
              refine gf ?_
              refine gf ?_
              refine sp pK ?_
              refine oNil ?_
              refine aCondT rfl ?_
              refine aExit rfl ?_
              refine aReg ?_
              refine sp pM ?_
              refine sp pAd ?_
              refine sp pMa ?_
              refine oNil ?_
              refine ⟨(i + 1, _, _), ?_, by (try dsimp only); omega, ⟨gInt rfl (by first | rfl | omega | simp), rfl, rfl, rfl, rfl, rfl, rfl, rfl, trivial⟩, _, (by repeat constructor)⟩
              rw [drop_step hx35, List.foldl_cons] at hv
              refine ⟨by omega, ?_, ?_⟩
              · rw [← hv]
                congr 1
                unfold rst
                split
                · first | rfl | (exfalso; simp_all [okE])
                · first | rfl | (exfalso; simp_all [okE])
              · simp_all
            · skip
              refine gp (pFb fd_86_0) ?_
              refine gr (rB1 ty_3) ?_
              refine gp pM ?_
              refine gp pB ?_
              refine sp pK ?_
              refine sp pM ?_
              refine oSplitEq 46 rfl (fun c46 => ?_) (fun c46 => ?_)
              · skip
                refine gf ?_
                refine gf ?_
                refine gf ?_
                refine gf ?_
                refine sp pK ?_
                refine oNil ?_
                refine aCondT rfl ?_
                refine aExit rfl ?_
                refine aReg ?_
                refine sp pM ?_
                refine sp pAd ?_
                refine sp pMa ?_
                refine oNil ?_
                refine ⟨(i + 1, _, _), ?_, by (try dsimp only); omega, ⟨gInt rfl (by first | rfl | omega | simp), rfl, rfl, rfl, rfl, rfl, rfl, rfl, trivial⟩, _, (by repeat constructor)⟩
                rw [drop_step hx35, List.foldl_cons] at hv
                refine ⟨by omega, ?_, ?_⟩
                · rw [← hv]
                  congr 1
                  unfold rst
                  split
                  · first | rfl | (exfalso; simp_all [okE])
                  · first | rfl | (exfalso; simp_all [okE])
                · simp_all
              · skip
                refine gp (pFb fd_86_1) ?_
                refine gr (rB1 ty_3) ?_
                refine gp pM ?_
                refine gp pB ?_
                refine sp pK ?_
                refine oNil ?_
                refine aCondEq rfl (fun c51 => ?_) (fun c51 => ?_)
                · skip
                  refine aExit rfl ?_
                  refine aReg ?_
                  refine sp pM ?_
                  refine sp pAd ?_
                  refine sp pMa ?_
                  refine oNil ?_
                  refine ⟨(i + 1, _, _), ?_, by (try dsimp only); omega, ⟨gInt rfl (by first | rfl | omega | simp), rfl, rfl, rfl, rfl, rfl, rfl, rfl, trivial⟩, _, (by repeat constructor)⟩
                  rw [drop_step hx35, List.foldl_cons] at hv
                  refine ⟨by omega, ?_, ?_⟩
                  · rw [← hv]
                    congr 1
                    unfold rst
                    split
                    · first | rfl | (exfalso; simp_all [okE])
                    · first | rfl | (exfalso; simp_all [okE])
                  · simp_all
                · skip
                  refine aSkip ?_
                  refine aSeq ?_
                  refine aDrawT ref39_Reached_r13_t ref39_Reached_r13_b [] 9 #[false, false, false, false, false, false, false, false, false] (by kernel_rfl) rfl rfl (fun HT => ?_)
                  refine dp HT 0 rfl (pFb fd_86_0) ?_
                  refine dr HT 1 rfl (rB1 ty_3) ?_
                  refine dp HT 2 rfl (pIa ar_104) ?_
                  refine dr HT 3 rfl (by first | exact rAr ty_4 | exact rArL ty_4 | exact rArR2 ty_4 | exact rB1 ty_4) ?_
                  refine dp HT 4 rfl (pFb fd_86_1) ?_
                  refine dr HT 5 rfl (rB1 ty_3) ?_
                  refine dp HT 6 rfl (pIa ar_104) ?_
                  refine dr HT 7 rfl (by first | exact rAr ty_4 | exact rArL ty_4 | exact rArR2 ty_4 | exact rB1 ty_4) ?_
                  refine dp HT 8 rfl (pEqBn bo_4) ?_
                  refine dE HT ?_
                  clear HT
                  refine aCond rfl (fun c60 => ?_) (fun c60 => ?_)
                  · skip
                    refine aSeq ?_
                    refine aDrawS (h1 := [.box b13 _]) ref39_Reached_r14_t ref39_Reached_r14_b [] 8 #[false, false, false, false, false, false, false, false] (by kernel_rfl) rfl rfl (by repeat constructor) (fun HT => ?_)
                    refine ep HT 0 rfl (pFb fd_86_0) ?_
                    refine er HT 1 rfl (rB1 ty_3) ?_
                    refine ep HT 2 rfl (pFb fd_86_1) ?_
                    refine er HT 3 rfl (rB1 ty_3) ?_
                    refine ep HT 4 rfl (pIa ar_104) ?_
                    refine eOneS (i := 5) #[true, true, true, true, true, true, false, false] rfl (HT.one (by kernel_rfl)) (by decide) ?_
                    · skip
                      refine stA (hx := [.box b9 _]) (wantN rfl) (fun t ht => by cases ht <;> decide) (.cons (by repeat constructor) .nil) (by repeat constructor) ?_
                      first | refine oAr rfl rfl rfl (by repeat constructor) ty_4 ?_ | refine oArL rfl rfl rfl (by repeat constructor) ty_4 ?_ | refine oArR rfl rfl rfl (by repeat constructor) (by first | rfl | exact arrF_len one_len) ty_4 ?_ | refine oStB rfl rfl rfl rfl (by repeat constructor) ty_4 rfl (Nat.le_of_ble_eq_true rfl) rfl ?_
                      dsimp only [List.cons_append, List.nil_append]
                      refine ep HT 6 rfl (pIa ar_104) ?_
                      refine eOneS (i := 7) #[true, true, true, true, true, true, true, true] rfl (HT.one (by kernel_rfl)) (by decide) ?_
                      · skip
                        refine stA (hx := [.box b9 _]) (wantN rfl) (fun t ht => by cases ht <;> decide) (.cons (by repeat constructor) .nil) (by repeat constructor) ?_
                        first | refine oAr rfl rfl rfl (by repeat constructor) ty_4 ?_ | refine oArL rfl rfl rfl (by repeat constructor) ty_4 ?_ | refine oArR rfl rfl rfl (by repeat constructor) (by first | rfl | exact arrF_len one_len) ty_4 ?_ | refine oStB rfl rfl rfl rfl (by repeat constructor) ty_4 rfl (Nat.le_of_ble_eq_true rfl) rfl ?_
                        dsimp only [List.cons_append, List.nil_append]
                        refine eE HT ?_
                        clear HT
                        refine aReg ?_
                        refine sp pMa ?_
                        refine oNil ?_
                        refine aReg ?_
                        refine sp pM ?_
                        refine sp pAd ?_
                        refine sp pMa ?_
                        refine oNil ?_
                        refine ⟨(i + 1, _, _), ?_, by (try dsimp only); omega, ⟨gInt rfl (by first | rfl | omega | simp), rfl, rfl, rfl, rfl, rfl, rfl, rfl, trivial⟩, _, (by repeat constructor)⟩
                        rw [drop_step hx35, List.foldl_cons] at hv
                        refine ⟨by omega, ?_, ?_⟩
                        · rw [← hv]
                          congr 1
                          unfold rst
                          split
                          · first | rfl | (exfalso; simp_all [okE])
                          · first | rfl | (exfalso; simp_all [okE])
                        · simp_all
                  · skip
                    refine aSkip ?_
                    refine aReg ?_
                    refine sp pM ?_
                    refine sp pAd ?_
                    refine sp pMa ?_
                    refine oNil ?_
                    refine ⟨(i + 1, _, _), ?_, by (try dsimp only); omega, ⟨gInt rfl (by first | rfl | omega | simp), rfl, rfl, rfl, rfl, rfl, rfl, rfl, trivial⟩, _, (by repeat constructor)⟩
                    rw [drop_step hx35, List.foldl_cons] at hv
                    refine ⟨by omega, ?_, ?_⟩
                    · rw [← hv]
                      congr 1
                      unfold rst
                      split
                      · first | rfl | (exfalso; simp_all [okE])
                      · first | rfl | (exfalso; simp_all [okE])
                    · simp_all
          · skip
            refine aExit rfl ?_
            refine aReg ?_
            refine sp pM ?_
            refine sp pAd ?_
            refine sp pMa ?_
            refine oNil ?_
            refine ⟨(r + 1, _, _), ?_, by (try dsimp only); omega, ⟨gInt rfl (by first | rfl | omega | simp), rfl, rfl, rfl, rfl, rfl, rfl, trivial⟩, _, (by repeat constructor)⟩
            obtain rfl : i = l.length := by omega
            rw [List.drop_of_length_le (by omega)] at hv
            subst hv
            refine ⟨by omega, ?_, fun h => ?_⟩
            · rw [← hsat, show 65 - r = (65 - (r + 1)) + 1 by omega]; rfl
            · rw [hch h, ← hch h]; exact congrArg _ (hch h)
      · skip
        refine aExit rfl ?_
        refine aSeq ?_
        refine aReg ?_
        refine sr (by first | exact rBWa ty_104 | exact rBW ty_104 | exact rBA ty_104) ?_
        refine sa ?_
        refine oStW rfl rfl rfl rfl (by repeat constructor) ty_104 ?_
        refine oNil ?_
        refine aRet ?_
        have hf : f = reachF (okE w gone) l n (n != gone) := by
          rw [← hsat]
          by_cases h65 : r = 65
          · rw [show 65 - r = 0 by omega]; rfl
          · rw [sat_fix (hfx (by first | (exfalso; omega) | simp_all))]
        refine finRIs (l := [.agg (arrF 65 (fun x => [boA x]) f)]) (.cons (.cellA rfl (by repeat (first | exact List.mem_cons_self | apply List.mem_cons_of_mem)) (by rw [arrF_len one_len]; exact ty_104)) .nil) (by rw [hf]; rfl)
    · skip
      refine gf ?_
      refine sp pK ?_
      refine oNil ?_
      refine aCondF rfl ?_
      refine aExit rfl ?_
      refine aSeq ?_
      refine aReg ?_
      refine sr (by first | exact rBWa ty_104 | exact rBW ty_104 | exact rBA ty_104) ?_
      refine sa ?_
      refine oStW rfl rfl rfl rfl (by repeat constructor) ty_104 ?_
      refine oNil ?_
      refine aRet ?_
      have hf : f = reachF (okE w gone) l n (n != gone) := by
        rw [← hsat]
        by_cases h65 : r = 65
        · rw [show 65 - r = 0 by omega]; rfl
        · rw [sat_fix (hfx (by first | (exfalso; omega) | simp_all))]
      refine finRIs (l := [.agg (arrF 65 (fun x => [boA x]) f)]) (.cons (.cellA rfl (by repeat (first | exact List.mem_cons_self | apply List.mem_cons_of_mem)) (by rw [arrF_len one_len]; exact ty_104)) .nil) (by rw [hf]; rfl)
/- waymarkref39.Same -/
def ref39_Same_r6_T : Bool × List (List Nat × List Nat) := (true, [([], []), ([], []), ([0, 1], [0, 1]), ([2], [2]), ([], []), ([], []), ([4, 5], [4, 5]), ([6], [6]), ([3, 7], [3, 7])])
def ref39_Same_r6_B : List Nat := [0, 0, 3, 7, 0, 0, 48, 112, 255]
theorem ref39_Same_r6_t : Go.Proofs.YtnabkchagjjjnaaW.PrintLast.rtab .any (Go.Proofs.YtnabkchagjjjnaaW.PrintLast.opsOf Try.f28 6) = ref39_Same_r6_T := by kernel_rfl
theorem ref39_Same_r6_b : Go.Proofs.YtnabkchagjjjnaaW.PrintLast.waitsOk ref39_Same_r6_T.2 ref39_Same_r6_B = true := by kernel_rfl
set_option maxRecDepth 100000 in
set_option maxHeartbeats 400000 in
theorem ref39_Same {a b : List Ed} (ha : a.length < 9223372036854775807 := by omega) (hb : b.length < 9223372036854775807 := by omega) : Triple Try.prog 28 [.sl 3 (a.map edC), .sl 3 (b.map edC)] [] (Is (.v (.bool (decide (a = b)))) []) := by
  refine triple_of Try.func28 rfl (by kernel_rfl) rfl (by simp) ?_
  refine aSeq ?_
  refine aReg ?_
  refine sp pMa ?_
  refine oNil ?_
  refine aSeq ?_
  refine aSeq ?_
  refine aReg ?_
  refine sp pM ?_
  refine sp (by first | exact pLm sl_56 | exact pLs sl_56) ?_
  refine sp pM ?_
  refine sp (by first | exact pLm sl_56 | exact pLs sl_56) ?_
  refine sp pB ?_
  refine oNil ?_
  refine aCondNe rfl (fun c10 => ?_) (fun c10 => ?_)
  · skip
    refine aSeq ?_
    refine aReg ?_
    refine sp pMa ?_
    refine oNil ?_
    refine aRet ?_
    refine finIs rfl ?_
    rw [decide_eq_false (fun e => by subst e; simp at c10)]
    rfl
  · skip
    refine aSkip ?_
    refine aSeq ?_
    refine aSeq ?_
    refine aReg ?_
    refine sp pMa ?_
    refine oNil ?_
    refine aBlock ?_
    refine loopF (α := Nat) (kept := [(0, _), (1, _)]) (fun i => i ≤ a.length ∧ a.length = b.length ∧ a.take i = b.take i) (fun i => [(5, .int i)]) (fun i => []) (fun i => a.length - i) 0 ?_ ⟨gInt rfl (by first | rfl | omega | simp), rfl, rfl, trivial⟩ (by repeat constructor) ?_
    · skip
      exact ⟨by omega, by omega, rfl⟩
    · rintro i ⟨hi, hl, hv⟩
      refine aSeq ?_
      refine aSeq ?_
      refine aReg ?_
      refine sp pM ?_
      refine sp pM ?_
      refine sp (by first | exact pLm sl_56 | exact pLs sl_56) ?_
      refine sp pB ?_
      refine oNil ?_
      refine aCondDec rfl (fun c14 => ?_) (fun c14 => ?_)
      · skip
        refine aSkip ?_
        refine aSeq ?_
        refine aBlock ?_
        refine aSeq ?_
        refine aDrawT ref39_Same_r6_t ref39_Same_r6_b [] 9 #[false, false, false, false, false, false, false, false, false] (by kernel_rfl) rfl rfl (fun HT => ?_)
        refine dp HT 0 rfl pM ?_
        refine dp HT 1 rfl pM ?_
        first | refine dp HT 2 rfl (pIx es_56) ?_ | (refine obtDN 17 18 rfl rfl (by omega) (fun x19 hx19 => ?_); refine dp HT 2 rfl (pIs es_56 hx19) ?_) | (refine obtD 17 18 rfl rfl (by omega) (by omega) (fun x19 hx19 => ?_); refine dp HT 2 rfl (pIs es_56 hx19) ?_) | refine dp HT 2 rfl (pIo es_56) ?_
        refine dr HT 3 rfl (by first | exact rSW ty_86 rfl | exact rSA ty_86) ?_
        refine dp HT 4 rfl pM ?_
        refine dp HT 5 rfl pM ?_
        first | refine dp HT 6 rfl (pIx es_56) ?_ | (refine obtDN 21 22 rfl rfl (by omega) (fun x23 hx23 => ?_); refine dp HT 6 rfl (pIs es_56 hx23) ?_) | (refine obtD 21 22 rfl rfl (by omega) (by omega) (fun x23 hx23 => ?_); refine dp HT 6 rfl (pIs es_56 hx23) ?_) | refine dp HT 6 rfl (pIo es_56) ?_
        refine dr HT 7 rfl (by first | exact rSW ty_86 rfl | exact rSA ty_86) ?_
        refine dp HT 8 rfl (pEqAn eq_86) ?_
        refine dE HT ?_
        clear HT
        refine aCond rfl (fun c25 => ?_) (fun c25 => ?_)
        · skip
          refine aSeq ?_
          refine aReg ?_
          refine sp pMa ?_
          refine oNil ?_
          refine aRet ?_
          refine finIs rfl ?_
          rw [decide_eq_false (fun e => by subst e; obtain rfl := Option.some.inj (hx19.symm.trans hx23); simp at c25)]
          rfl
        · skip
          refine aSkip ?_
          refine aReg ?_
          refine sp pM ?_
          refine sp pAd ?_
          refine sp pMa ?_
          refine oNil ?_
          refine ⟨i + 1, ?_, by (try dsimp only); omega, ⟨gInt rfl (by first | rfl | omega | simp), rfl, rfl, trivial⟩, _, (by repeat constructor)⟩
          have hxy : x19 = x23 := by
            cases x19
            cases x23
            simp_all
          exact ⟨by omega, hl, by rw [take_step hx19, take_step hx23, hv, hxy]⟩
      · skip
        refine aExit rfl ?_
        refine aSeq ?_
        refine aReg ?_
        refine sp pMa ?_
        refine oNil ?_
        refine aRet ?_
        refine finIs rfl ?_
        rw [take_all (by omega), take_all (by omega)] at hv
        rw [decide_eq_true hv]
        rfl
theorem edZ_ok {w : List Ed} (h : ∀ e ∈ w, EOk e) {e : Ed} (he : e ∈ w) {gone : Int} : okE edZ gone e = true ↔ e.a ≠ gone ∧ e.b ≠ gone := by
  have := h e he
  unfold EOk at this
  unfold okE edZ
  simp
  omega
def brgE (w : List Ed) (e : Ed) : Bool := !reachF (okE e 0) w e.a (e.a != 0) e.b
def RF (w : List Ed) (n gone : Int) : Int → Bool := reachF (okE edZ gone) w n (n != gone)
def upTo (n : Nat) (p : Int → Bool) : List Int := ((List.range n).map fun (i : Nat) => (i : Int)).filter fun v => decide (1 ≤ v) && p v
def anyTo (n : Nat) (p : Int → Bool) : Bool := ((List.range n).map fun (i : Nat) => (i : Int)).any fun v => decide (1 ≤ v) && p v
theorem upTo_succ {n : Nat} {p : Int → Bool} (h : 1 ≤ n) : upTo (n + 1) p = upTo n p ++ if p n then [(n : Int)] else [] := by
  unfold upTo
  rw [List.range_succ, List.map_append, List.filter_append]
  congr 1
  simp only [List.map_cons, List.map_nil, List.filter_cons, List.filter_nil]
  rw [decide_eq_true (show (1 : Int) ≤ n by omega), Bool.true_and]
theorem anyTo_succ {n : Nat} {p : Int → Bool} (h : 1 ≤ n) : anyTo (n + 1) p = (anyTo n p || p n) := by
  unfold anyTo
  rw [List.range_succ, List.map_append, List.any_append]
  simp only [List.map_cons, List.map_nil, List.any_cons, List.any_nil, Bool.or_false]
  rw [decide_eq_true (show (1 : Int) ≤ n by omega), Bool.true_and]
theorem upTo_len (n : Nat) (p : Int → Bool) : (upTo n p).length ≤ n := by
  unfold upTo
  refine Nat.le_trans (List.length_filter_le _ _) ?_
  simp
theorem mem_upTo {n : Nat} {p : Int → Bool} {v : Int} : v ∈ upTo n p ↔ 1 ≤ v ∧ v < n ∧ p v = true := by
  unfold upTo
  rw [List.mem_filter, List.mem_map]
  simp only [List.mem_range, Bool.and_eq_true, decide_eq_true_eq]
  constructor
  · rintro ⟨⟨i, hi, rfl⟩, h1, h2⟩
    exact ⟨h1, by omega, h2⟩
  · rintro ⟨h1, h2, h3⟩
    exact ⟨⟨v.toNat, by omega, by omega⟩, h1, h3⟩
theorem anyTo_iff {n : Nat} {p : Int → Bool} : anyTo n p = true ↔ ∃ v : Int, 1 ≤ v ∧ v < n ∧ p v = true := by
  unfold anyTo
  rw [List.any_eq_true]
  constructor
  · rintro ⟨v, hv, h⟩
    obtain ⟨i, hi, rfl⟩ := List.mem_map.1 hv
    simp at h hi
    exact ⟨_, by omega, by omega, h.2⟩
  · rintro ⟨v, h1, h2, h3⟩
    exact ⟨v, List.mem_map.2 ⟨v.toNat, by simp; omega, by omega⟩, by simp [h1, h3]⟩
theorem upTo_sorted (n : Nat) (p : Int → Bool) : (upTo n p).Pairwise (· < ·) := by
  unfold upTo
  refine List.Pairwise.sublist List.filter_sublist ?_
  rw [List.pairwise_map]
  exact List.pairwise_lt_range.imp fun h => by omega
def jB (w : List Ed) (n a b : Int) : Bool := b != n && (RF w a 0 b && !RF w a n b)
def jA (w : List Ed) (n a : Int) : Bool := (a != n && RF w a 0 n) && anyTo 65 (jB w n a)
def jN (w : List Ed) (n : Int) : Bool := anyTo 65 (jA w n)
def hasB (w : List Ed) (n : Int) : Bool := w.any fun e => e.a == n || e.b == n
theorem has_step {w : List Ed} {i : Nat} {e : Ed} (h : w[i]? = some e) (n : Int) : hasB (w.take (i + 1)) n = (hasB (w.take i) n || (e.a == n || e.b == n)) := by
  unfold hasB
  rw [take_step h, List.any_append]
  simp
/-- Pieces, as they are found: those, and what was seen. -/
def pcS (w : List Ed) (st : List (List Int) × (Int → Bool)) (n : Int) : List (List Int) × (Int → Bool) :=
  if st.2 n then st else (st.1 ++ [upTo 65 (RF w n 0)], fun v => st.2 v || (decide (1 ≤ v) && (decide (v < 65) && RF w n 0 v)))
def pcK (w : List Ed) (ks : List Int) : List (List Int) × (Int → Bool) := ks.foldl (pcS w) ([], fun _ => false)
def pcL (w : List Ed) : List (List Int) := (pcK w (upTo 65 (hasB w))).1
def pcC (p : List Int) : List AV := [.sl 1 (p.map intA)]
theorem pcK_snoc {w : List Ed} {ks : List Int} {n : Int} : pcK w (ks ++ [n]) = pcS w (pcK w ks) n := by
  unfold pcK
  rw [List.foldl_append]
  rfl
theorem pcK_len (w : List Ed) : ∀ (ks : List Int), (pcK w ks).1.length ≤ ks.length := by
  have key : ∀ (ks : List Int) (st : List (List Int) × (Int → Bool)), (ks.foldl (pcS w) st).1.length ≤ st.1.length + ks.length := fun ks => by
    induction ks with
    | nil => intro st; exact Nat.le_refl _
    | cons x t ih =>
      intro st
      rw [List.foldl_cons]
      refine Nat.le_trans (ih _) ?_
      have : (pcS w st x).1.length ≤ st.1.length + 1 := by
        unfold pcS
        split
        · omega
        · rw [List.length_append]; simp
      rw [List.length_cons]
      omega
  intro ks
  have := key ks ([], fun _ => false)
  simpa [pcK] using this
end A
end Go.Proofs.Ytnabkchagjjjnaa
set_option linter.unusedVariables false
set_option linter.unusedSimpArgs false
namespace Go.Proofs.Ytnabkchagjjjnaa
namespace A
theorem el_64 : elemOf Try.prog 64 = some (51, 1, 24) := by kernel_rfl
theorem sl_64 : isSl Try.prog 64 = true := by kernel_rfl
theorem us_64 : Try.prog.underlying 64 = some (.slice 51) := by kernel_rfl
theorem ze_51 : zeroOf Try.prog 51 = some (.slice none 0 0) := by kernel_rfl
/- waymarkref39.Bridges -/
def ref39_Bridges_r5_T : Bool × List (List Nat × List Nat) := (true, [([], []), ([], []), ([], []), ([1, 2], [1, 2]), ([3], [3]), ([4], [4]), ([], []), ([], []), ([6, 7], [6, 7]), ([8], [8]), ([0, 5, 9], [0, 5, 9]), ([], []), ([11, 10, 10, 0, 1, 2, 3, 4, 5, 6, 7, 8, 9, 10, 11], [10, 11])])
def ref39_Bridges_r5_B : List Nat := [0, 0, 0, 6, 14, 30, 0, 0, 192, 448, 1023, 0, 4095]
theorem ref39_Bridges_r5_t : Go.Proofs.YtnabkchagjjjnaaW.PrintLast.rtab .any (Go.Proofs.YtnabkchagjjjnaaW.PrintLast.opsOf Try.f29 5) = ref39_Bridges_r5_T := by kernel_rfl
theorem ref39_Bridges_r5_b : Go.Proofs.YtnabkchagjjjnaaW.PrintLast.waitsOk ref39_Bridges_r5_T.2 ref39_Bridges_r5_B = true := by kernel_rfl
set_option maxRecDepth 100000 in
set_option maxHeartbeats 400000 in
theorem ref39_Bridges {w : List Ed} (hl : w.length ≤ 1000000 := by omega) (hok : ∀ e ∈ w, EOk e) : Triple Try.prog 29 [.sl 3 (w.map edC)] [] (Own 86 3 ((w.filter (brgE w)).map edC) []) := by
  refine triple_of Try.func29 rfl (by kernel_rfl) rfl (by simp) ?_
  refine aSeq ?_
  refine aReg ?_
  refine sp pMa ?_
  refine oNil ?_
  refine aSeq ?_
  refine aReg ?_
  refine sq ?_
  refine qLit (l := []) rfl rfl (by decide) us_56 ty_86 ze_86 rfl (by decide) (by decide) rfl rfl rfl (fun b6 => ?_)
  refine sp pMa ?_
  refine oNil ?_
  refine aSeq ?_
  refine aSeq ?_
  refine aReg ?_
  refine sp pMa ?_
  refine oNil ?_
  refine aBlock ?_
  refine loopF (α := Nat × List Ed × Option Nat × Nat) (kept := [(0, _)]) (fun (i, out, g, c) => i ≤ w.length ∧ out = (w.take i).filter (brgE w)) (fun (i, out, g, c) => [(4, .int i), (3, .v (slV g out.length c))]) (fun (i, out, g, c) => [.sl g c 86 3 (out.map edC)]) (fun (i, out, g, c) => w.length - i) (0, [], _, _) ?_ ⟨gInt rfl (by first | rfl | omega | simp), gLen rfl (by first | rfl | simp | (simp; omega)), rfl, trivial⟩ (by repeat constructor) ?_
  · skip
    exact ⟨by omega, rfl⟩
  · rintro ⟨i, out, g, c⟩ ⟨hi, ho⟩
    refine aSeq ?_
    refine aSeq ?_
    refine aReg ?_
    refine sp pM ?_
    refine sp pM ?_
    refine sp (by first | exact pLm sl_56 | exact pLs sl_56) ?_
    refine sp pB ?_
    refine oNil ?_
    refine aCondDec rfl (fun c10 => ?_) (fun c10 => ?_)
    · skip
      refine aSkip ?_
      refine aSeq ?_
      refine aBlock ?_
      refine aSeq ?_
      have hlen : out.length ≤ w.length := by rw [ho]; exact Nat.le_trans (List.length_filter_le _ _) (by rw [List.length_take]; omega)
      obtain ⟨x16, hx16⟩ : ∃ z, w[i]? = some z := ⟨_, List.getElem?_eq_getElem (by omega)⟩
      have hxk := hok x16 (List.mem_of_getElem? hx16)
      unfold EOk at hxk
      have hz0 : (x16.a != 0) = true := by simp; omega
      refine aDrawT ref39_Bridges_r5_t ref39_Bridges_r5_b [12] 13 #[false, false, false, false, false, false, false, false, false, false, false, false, false] (by kernel_rfl) rfl rfl (fun HT => ?_)
      refine dp HT 0 rfl pM ?_
      refine dp HT 1 rfl pM ?_
      refine dp HT 2 rfl pM ?_
      first | refine dp HT 3 rfl (pIx es_56) ?_ | (refine obtDN 14 15 rfl rfl (by omega) (fun x16 hx16 => ?_); refine dp HT 3 rfl (pIs es_56 hx16) ?_) | (refine obtD 14 15 rfl rfl (by omega) (by omega) (fun x16 hx16 => ?_); refine dp HT 3 rfl (pIs es_56 hx16) ?_) | refine dp HT 3 rfl (pIo es_56) ?_
      refine dp HT 4 rfl (pFs fd_86_0) ?_
      refine dr HT 5 rfl (rS1 ty_3) ?_
      refine dp HT 6 rfl pM ?_
      refine dp HT 7 rfl pM ?_
      first | refine dp HT 8 rfl (pIx es_56) ?_ | (refine obtDN 19 20 rfl rfl (by omega) (fun x21 hx21 => ?_); refine dp HT 8 rfl (pIs es_56 hx21) ?_) | (refine obtD 19 20 rfl rfl (by omega) (by omega) (fun x21 hx21 => ?_); refine dp HT 8 rfl (pIs es_56 hx21) ?_) | refine dp HT 8 rfl (pIo es_56) ?_
      refine dr HT 9 rfl (by first | exact rSW ty_86 rfl | exact rSA ty_86) ?_
      refine dGo ?_
      refine eTwoS (i := 10) (j := 11) #[true, true, true, true, true, true, true, true, true, true, true, false, false] #[true, true, true, true, true, true, true, true, true, true, false, true, false] rfl rfl (HT.two (by kernel_rfl)) (by decide) (by decide) ?_ ?_
      · skip
        refine stQ (wantN rfl) (fun t ht => by cases ht <;> decide) ?_
        refine ci rfl rfl rfl (ref39_Reached (w := x16) (by omega) hok) ?_
        refine undel (d := 23) rfl ?_
        refine e1 HT 11 rfl ?_
        refine qAlloc rfl rfl (by decide) ze_104 rfl (fun b5 => ?_)
        refine eLast ?_
        refine f1 HT 12 rfl ?_
        refine oStW rfl rfl rfl rfl (by repeat constructor) ty_104 ?_
        refine fE HT ?_
        clear HT
        refine aSeq ?_
        refine aReg ?_
        refine sp pM ?_
        refine sp pM ?_
        first | refine sp (pIx es_56) ?_ | (refine obtSN 24 25 rfl rfl (by omega) (fun x26 hx26 => ?_); refine sp (pIs es_56 hx26) ?_) | (refine obtS 24 25 rfl rfl (by omega) (by omega) (fun x26 hx26 => ?_); refine sp (pIs es_56 hx26) ?_) | refine sp (pIo es_56) ?_
        refine sp (pFs fd_86_1) ?_
        refine sr (rS1 ty_3) ?_
        refine sp (pIa ar_104) ?_
        refine sr (by first | exact rAr ty_4 | exact rArL ty_4 | exact rArR2 ty_4 | exact rB1 ty_4) ?_
        refine sp pNo ?_
        refine oNil ?_
        refine aCondNot rfl (fun c31 => ?_) (fun c31 => ?_)
        · skip
          refine aReg ?_
          refine sp pM ?_
          refine sp pM ?_
          refine sp pM ?_
          first | refine sp (pIx es_56) ?_ | (refine obtSN 33 34 rfl rfl (by omega) (fun x35 hx35 => ?_); refine sp (pIs es_56 hx35) ?_) | (refine obtS 33 34 rfl rfl (by omega) (by omega) (fun x35 hx35 => ?_); refine sp (pIs es_56 hx35) ?_) | refine sp (pIo es_56) ?_
          refine sr (by first | exact rSW ty_86 rfl | exact rSA ty_86) ?_
          refine sq ?_
          refine qLit (l := [_]) rfl rfl (by decide) us_56 ty_86 ze_86 rfl (by decide) (by decide) rfl rfl rfl (fun b37 => ?_)
          refine sa ?_
          refine oAppT [_] rfl rfl (by repeat constructor) (srcOwn rfl (by repeat constructor) rfl) el_56 sl_56 (fun g38 k38 => ?_)
          refine sp pMa ?_
          refine oNil ?_
          refine aReg ?_
          refine sp pM ?_
          refine sp pAd ?_
          refine sp pMa ?_
          refine oNil ?_
          refine ⟨(i + 1, _, _, _), ?_, by (try dsimp only); omega, ⟨gInt rfl (by first | rfl | omega | simp), gLen rfl (by first | rfl | simp | (simp; omega)), rfl, trivial⟩, _, (by repeat constructor)⟩
          refine ⟨by omega, ?_⟩
          rw [filt_step hx16, ← ho]
          cases hp : brgE w x16 <;> first
            | (simp; done)
            | (exfalso; unfold brgE at hp; simp_all)
        · skip
          refine aSkip ?_
          refine aReg ?_
          refine sp pM ?_
          refine sp pAd ?_
          refine sp pMa ?_
          refine oNil ?_
          refine ⟨(i + 1, _, _, _), ?_, by (try dsimp only); omega, ⟨gInt rfl (by first | rfl | omega | simp), gLen rfl (by first | rfl | simp | (simp; omega)), rfl, trivial⟩, _, (by repeat constructor)⟩
          refine ⟨by omega, ?_⟩
          rw [filt_step hx16, ← ho]
          cases hp : brgE w x16 <;> first
            | (simp; done)
            | (exfalso; unfold brgE at hp; simp_all)
      · skip
        refine stQ (wantN rfl) (fun t ht => by cases ht <;> decide) ?_
        refine qAlloc rfl rfl (by decide) ze_104 rfl (fun b5 => ?_)
        refine undel (d := 5) rfl ?_
        refine e1 HT 10 rfl ?_
        refine ci rfl rfl rfl (ref39_Reached (w := x16) (by omega) hok) ?_
        refine eLast ?_
        refine f1 HT 12 rfl ?_
        refine oStW rfl rfl rfl rfl (by repeat constructor) ty_104 ?_
        refine fE HT ?_
        clear HT
        refine aSeq ?_
        refine aReg ?_
        refine sp pM ?_
        refine sp pM ?_
        first | refine sp (pIx es_56) ?_ | (refine obtSN 24 25 rfl rfl (by omega) (fun x26 hx26 => ?_); refine sp (pIs es_56 hx26) ?_) | (refine obtS 24 25 rfl rfl (by omega) (by omega) (fun x26 hx26 => ?_); refine sp (pIs es_56 hx26) ?_) | refine sp (pIo es_56) ?_
        refine sp (pFs fd_86_1) ?_
        refine sr (rS1 ty_3) ?_
        refine sp (pIa ar_104) ?_
        refine sr (by first | exact rAr ty_4 | exact rArL ty_4 | exact rArR2 ty_4 | exact rB1 ty_4) ?_
        refine sp pNo ?_
        refine oNil ?_
        refine aCondNot rfl (fun c31 => ?_) (fun c31 => ?_)
        · skip
          refine aReg ?_
          refine sp pM ?_
          refine sp pM ?_
          refine sp pM ?_
          first | refine sp (pIx es_56) ?_ | (refine obtSN 33 34 rfl rfl (by omega) (fun x35 hx35 => ?_); refine sp (pIs es_56 hx35) ?_) | (refine obtS 33 34 rfl rfl (by omega) (by omega) (fun x35 hx35 => ?_); refine sp (pIs es_56 hx35) ?_) | refine sp (pIo es_56) ?_
          refine sr (by first | exact rSW ty_86 rfl | exact rSA ty_86) ?_
          refine sq ?_
          refine qLit (l := [_]) rfl rfl (by decide) us_56 ty_86 ze_86 rfl (by decide) (by decide) rfl rfl rfl (fun b37 => ?_)
          refine sa ?_
          refine oAppT [_] rfl rfl (by repeat constructor) (srcOwn rfl (by repeat constructor) rfl) el_56 sl_56 (fun g38 k38 => ?_)
          refine sp pMa ?_
          refine oNil ?_
          refine aReg ?_
          refine sp pM ?_
          refine sp pAd ?_
          refine sp pMa ?_
          refine oNil ?_
          refine ⟨(i + 1, _, _, _), ?_, by (try dsimp only); omega, ⟨gInt rfl (by first | rfl | omega | simp), gLen rfl (by first | rfl | simp | (simp; omega)), rfl, trivial⟩, _, (by repeat constructor)⟩
          refine ⟨by omega, ?_⟩
          rw [filt_step hx16, ← ho]
          cases hp : brgE w x16 <;> first
            | (simp; done)
            | (exfalso; unfold brgE at hp; simp_all)
        · skip
          refine aSkip ?_
          refine aReg ?_
          refine sp pM ?_
          refine sp pAd ?_
          refine sp pMa ?_
          refine oNil ?_
          refine ⟨(i + 1, _, _, _), ?_, by (try dsimp only); omega, ⟨gInt rfl (by first | rfl | omega | simp), gLen rfl (by first | rfl | simp | (simp; omega)), rfl, trivial⟩, _, (by repeat constructor)⟩
          refine ⟨by omega, ?_⟩
          rw [filt_step hx16, ← ho]
          cases hp : brgE w x16 <;> first
            | (simp; done)
            | (exfalso; unfold brgE at hp; simp_all)
    · skip
      refine aExit rfl ?_
      refine aSeq ?_
      refine aReg ?_
      refine sp pM ?_
      refine sp pMa ?_
      refine oNil ?_
      refine aRet ?_
      refine finOwn rfl ?_
      obtain rfl : i = w.length := by omega
      rw [ho, List.take_length]
theorem ref39_RF {w : List Ed} {n gone : Int} (hl : w.length ≤ 1000000) (hok : ∀ e ∈ w, EOk e) (h0 : 0 ≤ n) (h1 : n ≤ 64) : Triple Try.prog 56 [.sl 3 (w.map edC), .int n, .agg (edC edZ), .int gone] [] (Is (.agg (arrF 65 (fun x => [boA x]) (RF w n gone))) []) := ref39_Reached (l := w) (w := edZ) hl hok h0 h1
/- waymarkref39.Joints -/
set_option maxRecDepth 100000 in
set_option maxHeartbeats 4000000 in
theorem ref39_Joints {w : List Ed} (hl : w.length ≤ 1000000 := by omega) (hok : ∀ e ∈ w, EOk e) : Triple Try.prog 31 [.sl 3 (w.map edC)] [] (Own 3 1 ((upTo 65 (jN w)).map intA) []) := by
  refine triple_of Try.func31 rfl (by kernel_rfl) rfl (by simp) ?_
  refine aSeq ?_
  refine aReg ?_
  refine sp pMa ?_
  refine oNil ?_
  refine aSeq ?_
  refine aReg ?_
  refine sq ?_
  refine qLit (l := []) rfl rfl (by decide) us_51 ty_3 ze_3 rfl (by decide) (by decide) rfl rfl rfl (fun b10 => ?_)
  refine sp pMa ?_
  refine oNil ?_
  refine aSeq ?_
  refine aSeq ?_
  refine aReg ?_
  refine sp pMa ?_
  refine oNil ?_
  refine aBlock ?_
  refine loopF (α := Nat × List Int × Option Nat × Nat) (kept := [(0, _)]) (fun (n, out, g, c) => 1 ≤ n ∧ n ≤ 65 ∧ out = upTo n (jN w)) (fun (n, out, g, c) => [(4, .int n), (3, .v (slV g out.length c))]) (fun (n, out, g, c) => [.sl g c 3 1 (out.map intA)]) (fun (n, out, g, c) => 65 - n) (1, [], _, _) ?_ ⟨gInt rfl (by first | rfl | omega | simp), gLen rfl (by first | rfl | simp | (simp; omega)), rfl, trivial⟩ (by repeat constructor) ?_
  · skip
    exact ⟨by omega, by omega, rfl⟩
  · rintro ⟨n, out, g, c⟩ ⟨hn1, hn, ho⟩
    refine aSeq ?_
    refine aSeq ?_
    refine aReg ?_
    refine sp pM ?_
    refine sp pB ?_
    refine oNil ?_
    refine aCondDec rfl (fun c12 => ?_) (fun c12 => ?_)
    · skip
      refine aSkip ?_
      refine aSeq ?_
      refine aBlock ?_
      refine aSeq ?_
      refine aReg ?_
      refine sp pMa ?_
      refine oNil ?_
      refine aSeq ?_
      refine aSeq ?_
      refine aReg ?_
      refine sp pMa ?_
      refine oNil ?_
      refine aBlock ?_
      refine loopF (α := Nat × Bool) (kept := [(0, _), (3, _), (4, _)]) (fun (a, jt) => 1 ≤ a ∧ a ≤ 65 ∧ jt = anyTo a (jA w n)) (fun (a, jt) => [(6, .int a), (5, .v (.bool jt))]) (fun (a, jt) => []) (fun (a, jt) => 65 - a) (1, false) ?_ ⟨gInt rfl (by first | rfl | omega | simp), rfl, rfl, rfl, rfl, trivial⟩ (by repeat constructor) ?_
      · skip
        exact ⟨by omega, by omega, rfl⟩
      · rintro ⟨a, jt⟩ ⟨ha1, ha, hj⟩
        refine aSeq ?_
        refine aSeq ?_
        refine aReg ?_
        refine sp pM ?_
        refine sp pB ?_
        refine oNil ?_
        refine aCondDec rfl (fun c16 => ?_) (fun c16 => ?_)
        · skip
          refine aSkip ?_
          refine aSeq ?_
          refine aBlock ?_
          refine aSeq ?_
          refine aReg ?_
          refine sp pM ?_
          refine sp pM ?_
          refine sp (pBuild rfl st_86 ze_86 rfl rfl rfl rfl) ?_
          refine sq ?_
          refine ci rfl rfl rfl (ref39_RF (n := a) (gone := 0) hl hok (by omega) (by omega)) ?_
          refine sq ?_
          refine qAlloc rfl rfl (by decide) ze_104 rfl (fun b7 => ?_)
          refine sa ?_
          refine oStW rfl rfl rfl rfl (by repeat constructor) ty_104 ?_
          refine oNil ?_
          refine aSeq ?_
          refine aSeq ?_
          refine aReg ?_
          refine sp pM ?_
          refine sp pM ?_
          refine sp pB ?_
          refine sp pM ?_
          refine oSplitEq 26 rfl (fun c26 => ?_) (fun c26 => ?_)
          · skip
            refine gf ?_
            refine gf ?_
            refine gf ?_
            refine gf ?_
            refine sp pK ?_
            refine oNil ?_
            refine aCondT rfl ?_
            refine aExit rfl ?_
            refine aReg ?_
            refine sp pM ?_
            refine sp pAd ?_
            refine sp pMa ?_
            refine oNil ?_
            refine ⟨(a + 1, _), ?_, by (try dsimp only); omega, ⟨gInt rfl (by first | rfl | omega | simp), rfl, rfl, rfl, rfl, trivial⟩, _, (by repeat constructor)⟩
            refine ⟨by omega, by omega, ?_⟩
            rw [anyTo_succ ha1, ← hj]
            first
              | (obtain rfl : b = 65 := by omega
                 rw [hb2]
                 have han : ((a : Int) != n) = true := by simp_all
                 unfold jA
                 rw [han]
                 simp_all
                 done)
              | (unfold jA
                 simp_all
                 done)
          · skip
            refine gp pM ?_
            refine gp (pIa ar_104) ?_
            refine gr (by first | exact rAr ty_4 | exact rArL ty_4 | exact rArR2 ty_4 | exact rB1 ty_4) ?_
            refine gp pNo ?_
            refine sp pK ?_
            refine oNil ?_
            refine aCondNot rfl (fun c31 => ?_) (fun c31 => ?_)
            · skip
              refine aExit rfl ?_
              refine aReg ?_
              refine sp pM ?_
              refine sp pAd ?_
              refine sp pMa ?_
              refine oNil ?_
              refine ⟨(a + 1, _), ?_, by (try dsimp only); omega, ⟨gInt rfl (by first | rfl | omega | simp), rfl, rfl, rfl, rfl, trivial⟩, _, (by repeat constructor)⟩
              refine ⟨by omega, by omega, ?_⟩
              rw [anyTo_succ ha1, ← hj]
              first
                | (obtain rfl : b = 65 := by omega
                   rw [hb2]
                   have han : ((a : Int) != n) = true := by simp_all
                   unfold jA
                   rw [han]
                   simp_all
                   done)
                | (unfold jA
                   simp_all
                   done)
            · skip
              refine aSkip ?_
              refine aSeq ?_
              refine aReg ?_
              refine sp pM ?_
              refine sp pM ?_
              refine sp (pBuild rfl st_86 ze_86 rfl rfl rfl rfl) ?_
              refine sp pM ?_
              refine sq ?_
              refine ci rfl rfl rfl (ref39_RF (n := a) (gone := n) hl hok (by omega) (by omega)) ?_
              refine sq ?_
              refine qAlloc rfl rfl (by decide) ze_104 rfl (fun b8 => ?_)
              refine sa ?_
              refine oStW rfl rfl rfl rfl (by repeat constructor) ty_104 ?_
              refine oNil ?_
              refine aSeq ?_
              refine aReg ?_
              refine sp pMa ?_
              refine oNil ?_
              refine aBlock ?_
              refine loopF (α := Nat × Bool) (kept := [(0, _), (3, _), (4, _), (6, _), (7, _), (8, _)]) (fun (b, jb) => 1 ≤ b ∧ b ≤ 65 ∧ jb = (jt || anyTo b (jB w n a))) (fun (b, jb) => [(9, .int b), (5, .v (.bool jb))]) (fun (b, jb) => []) (fun (b, jb) => 65 - b) (1, jt) ?_ ⟨gInt rfl (by first | rfl | omega | simp), rfl, rfl, rfl, rfl, rfl, rfl, rfl, trivial⟩ (by repeat constructor) ?_
              · skip
                exact ⟨by omega, by omega, by simp [anyTo]⟩
              · rintro ⟨b, jb⟩ ⟨hb1, hb, hb2⟩
                refine aSeq ?_
                refine aSeq ?_
                refine aReg ?_
                refine sp pM ?_
                refine sp pB ?_
                refine oNil ?_
                refine aCondDec rfl (fun c38 => ?_) (fun c38 => ?_)
                · skip
                  refine aSkip ?_
                  refine aSeq ?_
                  refine aBlock ?_
                  refine aReg ?_
                  refine sp pM ?_
                  refine sp pM ?_
                  refine oSplit 42 rfl (fun c42 => ?_) (fun c42 => ?_)
                  · skip
                    refine gf ?_
                    refine gf ?_
                    refine gf ?_
                    refine gf ?_
                    refine gf ?_
                    refine gf ?_
                    refine gf ?_
                    refine gf ?_
                    refine gf ?_
                    refine gf ?_
                    refine gf ?_
                    refine gf ?_
                    refine gf ?_
                    refine gf ?_
                    refine sp pK ?_
                    refine sp pMa ?_
                    refine oNil ?_
                    refine aReg ?_
                    refine sp pM ?_
                    refine sp pAd ?_
                    refine sp pMa ?_
                    refine oNil ?_
                    refine ⟨(b + 1, _), ?_, by (try dsimp only); omega, ⟨gInt rfl (by first | rfl | omega | simp), rfl, rfl, rfl, rfl, rfl, rfl, rfl, trivial⟩, _, (by repeat constructor)⟩
                    refine ⟨by omega, by omega, ?_⟩
                    rw [anyTo_succ hb1, ← Bool.or_assoc, ← hb2]
                    unfold jB
                    first
                      | (simp_all; done)
                      | (simp_all [bne_iff_ne]; done)
                  · skip
                    refine gp pM ?_
                    refine gp pM ?_
                    refine gp pB ?_
                    refine gp pM ?_
                    refine oSplitNe 46 rfl (fun c46 => ?_) (fun c46 => ?_)
                    · skip
                      refine gp pM ?_
                      refine gp (pIa ar_104) ?_
                      refine gr (by first | exact rAr ty_4 | exact rArL ty_4 | exact rArR2 ty_4 | exact rB1 ty_4) ?_
                      refine gp pK ?_
                      refine gp pM ?_
                      refine oSplit 51 rfl (fun c51 => ?_) (fun c51 => ?_)
                      · skip
                        refine gp pM ?_
                        refine gp (pIa ar_104) ?_
                        refine gr (by first | exact rAr ty_4 | exact rArL ty_4 | exact rArR2 ty_4 | exact rB1 ty_4) ?_
                        refine gp pNo ?_
                        refine gp pK ?_
                        refine sp pK ?_
                        refine sp pMa ?_
                        refine oNil ?_
                        refine aReg ?_
                        refine sp pM ?_
                        refine sp pAd ?_
                        refine sp pMa ?_
                        refine oNil ?_
                        refine ⟨(b + 1, _), ?_, by (try dsimp only); omega, ⟨gInt rfl (by first | rfl | omega | simp), rfl, rfl, rfl, rfl, rfl, rfl, rfl, trivial⟩, _, (by repeat constructor)⟩
                        refine ⟨by omega, by omega, ?_⟩
                        rw [anyTo_succ hb1, ← Bool.or_assoc, ← hb2]
                        unfold jB
                        first
                          | (simp_all; done)
                          | (simp_all [bne_iff_ne]; done)
                      · skip
                        refine gf ?_
                        refine gf ?_
                        refine gf ?_
                        refine gf ?_
                        refine gp pK ?_
                        refine sp pK ?_
                        refine sp pMa ?_
                        refine oNil ?_
                        refine aReg ?_
                        refine sp pM ?_
                        refine sp pAd ?_
                        refine sp pMa ?_
                        refine oNil ?_
                        refine ⟨(b + 1, _), ?_, by (try dsimp only); omega, ⟨gInt rfl (by first | rfl | omega | simp), rfl, rfl, rfl, rfl, rfl, rfl, rfl, trivial⟩, _, (by repeat constructor)⟩
                        refine ⟨by omega, by omega, ?_⟩
                        rw [anyTo_succ hb1, ← Bool.or_assoc, ← hb2]
                        unfold jB
                        first
                          | (simp_all; done)
                          | (simp_all [bne_iff_ne]; done)
                    · skip
                      refine gf ?_
                      refine gf ?_
                      refine gf ?_
                      refine gp pK ?_
                      refine gp pM ?_
                      refine gf ?_
                      refine gf ?_
                      refine gf ?_
                      refine gf ?_
                      refine gp pK ?_
                      refine sp pK ?_
                      refine sp pMa ?_
                      refine oNil ?_
                      refine aReg ?_
                      refine sp pM ?_
                      refine sp pAd ?_
                      refine sp pMa ?_
                      refine oNil ?_
                      refine ⟨(b + 1, _), ?_, by (try dsimp only); omega, ⟨gInt rfl (by first | rfl | omega | simp), rfl, rfl, rfl, rfl, rfl, rfl, rfl, trivial⟩, _, (by repeat constructor)⟩
                      refine ⟨by omega, by omega, ?_⟩
                      rw [anyTo_succ hb1, ← Bool.or_assoc, ← hb2]
                      unfold jB
                      first
                        | (simp_all; done)
                        | (simp_all [bne_iff_ne]; done)
                · skip
                  refine aExit rfl ?_
                  refine aReg ?_
                  refine sp pM ?_
                  refine sp pAd ?_
                  refine sp pMa ?_
                  refine oNil ?_
                  refine ⟨(a + 1, _), ?_, by (try dsimp only); omega, ⟨gInt rfl (by first | rfl | omega | simp), rfl, rfl, rfl, rfl, trivial⟩, _, (by repeat constructor)⟩
                  refine ⟨by omega, by omega, ?_⟩
                  rw [anyTo_succ ha1, ← hj]
                  first
                    | (obtain rfl : b = 65 := by omega
                       rw [hb2]
                       have han : ((a : Int) != n) = true := by simp_all
                       unfold jA
                       rw [han]
                       simp_all
                       done)
                    | (unfold jA
                       simp_all
                       done)
        · skip
          refine aExit rfl ?_
          refine aSeq ?_
          have hol := upTo_len n (jN w)
          rw [← ho] at hol
          refine aReg ?_
          refine sp pM ?_
          refine oNil ?_
          refine aCond rfl (fun c58 => ?_) (fun c58 => ?_)
          · skip
            refine aReg ?_
            refine sp pM ?_
            refine sp pM ?_
            refine sq ?_
            refine qLit (l := [_]) rfl rfl (by decide) us_51 ty_3 ze_3 rfl (by decide) (by decide) rfl rfl rfl (fun b61 => ?_)
            refine sa ?_
            refine oAppT [_] rfl rfl (by repeat constructor) (srcOwn rfl (by repeat constructor) rfl) el_51 sl_51 (fun g62 k62 => ?_)
            refine sp pMa ?_
            refine oNil ?_
            refine aReg ?_
            refine sp pM ?_
            refine sp pAd ?_
            refine sp pMa ?_
            refine oNil ?_
            refine ⟨(n + 1, _, _, _), ?_, by (try dsimp only); omega, ⟨gInt rfl (by first | rfl | omega | simp), gLen rfl (by first | rfl | simp | (simp; omega)), rfl, trivial⟩, _, (by repeat constructor)⟩
            obtain rfl : a = 65 := by omega
            refine ⟨by omega, by omega, ?_⟩
            rw [upTo_succ hn1, ← ho]
            cases hp : jN w n <;> first
              | (simp; done)
              | (exfalso; unfold jN at hp; simp_all)
          · skip
            refine aSkip ?_
            refine aReg ?_
            refine sp pM ?_
            refine sp pAd ?_
            refine sp pMa ?_
            refine oNil ?_
            refine ⟨(n + 1, _, _, _), ?_, by (try dsimp only); omega, ⟨gInt rfl (by first | rfl | omega | simp), gLen rfl (by first | rfl | simp | (simp; omega)), rfl, trivial⟩, _, (by repeat constructor)⟩
            obtain rfl : a = 65 := by omega
            refine ⟨by omega, by omega, ?_⟩
            rw [upTo_succ hn1, ← ho]
            cases hp : jN w n <;> first
              | (simp; done)
              | (exfalso; unfold jN at hp; simp_all)
    · skip
      refine aExit rfl ?_
      refine aSeq ?_
      refine aReg ?_
      refine sp pM ?_
      refine sp pMa ?_
      refine oNil ?_
      refine aRet ?_
      refine finOwn rfl ?_
      obtain rfl : n = 65 := by omega
      rw [ho]
theorem pcS_snd {w : List Ed} {st : List (List Int) × (Int → Bool)} {n : Int} {G : Int → Bool} (h : st.2 n = false) (hG : ∀ v, G v = (st.2 v || (decide (1 ≤ v) && (decide (v < 65) && RF w n 0 v)))) : pcS w st n = (st.1 ++ [upTo 65 (RF w n 0)], G) := by
  unfold pcS
  rw [h, if_neg (by simp)]
  congr 1
  exact funext fun v => (hG v).symm
theorem snU {R seen sn : Int → Bool} {k : Nat} (h : ∀ v, sn v = (seen v || (decide (1 ≤ v) && (decide (v < (k : Int)) && R v)))) (h1 : 1 ≤ k) (hp : R k = true) (v : Int) : updF sn k true v = (seen v || (decide (1 ≤ v) && (decide (v < ((k + 1 : Nat) : Int)) && R v))) := by
  by_cases e : v = k
  · subst e
    rw [updF_same, hp]
    simp
    omega
  · rw [updF_ne _ _ e, h]
    congr 2
    congr 1
    rw [decide_eq_decide]
    omega
theorem snN {R seen sn : Int → Bool} {k : Nat} (h : ∀ v, sn v = (seen v || (decide (1 ≤ v) && (decide (v < (k : Int)) && R v)))) (hp : R k = false) (v : Int) : sn v = (seen v || (decide (1 ≤ v) && (decide (v < ((k + 1 : Nat) : Int)) && R v))) := by
  by_cases e : v = k
  · subst e
    rw [h, hp]
    simp
  · rw [h]
    congr 2
    congr 1
    rw [decide_eq_decide]
    omega
/- waymarkref39.Pieces -/
set_option maxRecDepth 100000 in
set_option maxHeartbeats 4000000 in
theorem ref39_Pieces {w : List Ed} (hl : w.length ≤ 1000000 := by omega) (hok : ∀ e ∈ w, EOk e) : Triple Try.prog 33 [.sl 3 (w.map edC)] [] (Own 51 1 ((pcL w).map pcC) []) := by
  refine triple_of Try.func33 rfl (by kernel_rfl) rfl (by simp) ?_
  refine aSeq ?_
  refine aReg ?_
  refine sp pMa ?_
  refine oNil ?_
  refine aSeq ?_
  refine aReg ?_
  refine sq ?_
  refine qLit (l := []) rfl rfl (by decide) us_64 ty_51 ze_51 rfl (by decide) (by decide) rfl rfl rfl (fun b11 => ?_)
  refine sp pMa ?_
  refine oNil ?_
  refine aSeq ?_
  refine aReg ?_
  refine sp (pBuildA0 rfl ua_104 ty_4 ze_104 rfl) ?_
  refine sq ?_
  refine qAlloc rfl rfl (by decide) ze_104 rfl (fun b4 => ?_)
  refine sa ?_
  refine oStW rfl rfl rfl rfl (by repeat constructor) ty_104 ?_
  refine oNil ?_
  refine aSeq ?_
  refine aSeq ?_
  refine aWeak (weak_box (b := b4) (cs' := arrF 65 (fun x => [boA x]) (fun _ => false)) (by repeat constructor) (by kernel_rfl)) ?_
  refine aReg ?_
  refine sp pMa ?_
  refine oNil ?_
  refine aBlock ?_
  refine loopF (α := Nat × List (List Int) × Option Nat × Nat × (Int → Bool)) (kept := [(0, _), (4, _)]) (fun (n, out, g, c, seen) => 1 ≤ n ∧ n ≤ 65 ∧ (out, seen) = pcK w (upTo n (hasB w))) (fun (n, out, g, c, seen) => [(5, .int n), (3, .v (slV g out.length c))]) (fun (n, out, g, c, seen) => [.sl g c 51 1 (out.map pcC), .box b4 (arrF 65 (fun x => [boA x]) seen)]) (fun (n, out, g, c, seen) => 65 - n) (1, [], _, _, _) ?_ ⟨gInt rfl (by first | rfl | omega | simp), gLen rfl (by first | rfl | simp | (simp; omega)), rfl, rfl, trivial⟩ (by repeat constructor) ?_
  · skip
    exact ⟨by omega, by omega, rfl⟩
  · rintro ⟨n, out, g, c, seen⟩ ⟨hn1, hn, ho⟩
    refine aSeq ?_
    refine aSeq ?_
    refine aReg ?_
    refine sp pM ?_
    refine sp pB ?_
    refine oNil ?_
    refine aCondDec rfl (fun c14 => ?_) (fun c14 => ?_)
    · skip
      refine aSkip ?_
      refine aSeq ?_
      refine aBlock ?_
      refine aSeq ?_
      refine aReg ?_
      refine sp pMa ?_
      refine oNil ?_
      refine aSeq ?_
      refine aSeq ?_
      refine aReg ?_
      refine sp pMa ?_
      refine oNil ?_
      refine aBlock ?_
      refine loopF (α := Nat × Bool) (kept := [(0, _), (3, _), (4, _), (5, _)]) (fun (i, hs) => i ≤ w.length ∧ hs = hasB (w.take i) n) (fun (i, hs) => [(7, .int i), (6, .v (.bool hs))]) (fun (i, hs) => []) (fun (i, hs) => w.length - i) (0, false) ?_ ⟨gInt rfl (by first | rfl | omega | simp), rfl, rfl, rfl, rfl, rfl, trivial⟩ (by repeat constructor) ?_
      · skip
        exact ⟨by omega, rfl⟩
      · rintro ⟨i, hs⟩ ⟨hi, hh⟩
        refine aSeq ?_
        refine aSeq ?_
        refine aReg ?_
        refine sp pM ?_
        refine sp pM ?_
        refine sp (by first | exact pLm sl_56 | exact pLs sl_56) ?_
        refine sp pB ?_
        refine oNil ?_
        refine aCondDec rfl (fun c20 => ?_) (fun c20 => ?_)
        · skip
          refine aSkip ?_
          refine aSeq ?_
          refine aBlock ?_
          obtain ⟨e, he⟩ : ∃ z, w[i]? = some z := ⟨_, List.getElem?_eq_getElem (by omega)⟩
          refine aReg ?_
          refine sp pM ?_
          refine sp pM ?_
          refine oSplit 24 rfl (fun c24 => ?_) (fun c24 => ?_)
          · skip
            refine gf ?_
            refine gf ?_
            refine gf ?_
            refine gf ?_
            refine gf ?_
            refine gf ?_
            refine gf ?_
            refine sp pK ?_
            refine sp pM ?_
            refine gf ?_
            refine gf ?_
            refine gf ?_
            refine gf ?_
            refine gf ?_
            refine gf ?_
            refine gf ?_
            refine sp pK ?_
            refine sp pMa ?_
            refine oNil ?_
            refine aReg ?_
            refine sp pM ?_
            refine sp pAd ?_
            refine sp pMa ?_
            refine oNil ?_
            refine ⟨(i + 1, _), ?_, by (try dsimp only); omega, ⟨gInt rfl (by first | rfl | omega | simp), rfl, rfl, rfl, rfl, rfl, trivial⟩, _, (by repeat constructor)⟩
            refine ⟨by omega, ?_⟩
            rw [has_step he, ← hh]
            simp_all
          · skip
            refine gp pM ?_
            refine gp pM ?_
            first | refine gp (pIx es_56) ?_ | (refine obtSN 25 26 rfl rfl (by omega) (fun x27 hx27 => ?_); refine gp (pIs es_56 hx27) ?_) | (refine obtS 25 26 rfl rfl (by omega) (by omega) (fun x27 hx27 => ?_); refine gp (pIs es_56 hx27) ?_) | refine gp (pIo es_56) ?_
            refine gp (pFs fd_86_0) ?_
            refine gr (rS1 ty_3) ?_
            refine gp pM ?_
            refine gp pB ?_
            refine sp pK ?_
            refine sp pM ?_
            refine oSplitEq 33 rfl (fun c33 => ?_) (fun c33 => ?_)
            · skip
              refine gf ?_
              refine gf ?_
              refine gf ?_
              refine gf ?_
              refine gf ?_
              refine gf ?_
              refine gf ?_
              refine sp pK ?_
              refine sp pMa ?_
              refine oNil ?_
              refine aReg ?_
              refine sp pM ?_
              refine sp pAd ?_
              refine sp pMa ?_
              refine oNil ?_
              refine ⟨(i + 1, _), ?_, by (try dsimp only); omega, ⟨gInt rfl (by first | rfl | omega | simp), rfl, rfl, rfl, rfl, rfl, trivial⟩, _, (by repeat constructor)⟩
              refine ⟨by omega, ?_⟩
              rw [has_step he, ← hh]
              simp_all
            · skip
              refine gp pM ?_
              refine gp pM ?_
              first | refine gp (pIx es_56) ?_ | (refine obtSN 34 35 rfl rfl (by omega) (fun x36 hx36 => ?_); refine gp (pIs es_56 hx36) ?_) | (refine obtS 34 35 rfl rfl (by omega) (by omega) (fun x36 hx36 => ?_); refine gp (pIs es_56 hx36) ?_) | refine gp (pIo es_56) ?_
              refine gp (pFs fd_86_1) ?_
              refine gr (rS1 ty_3) ?_
              refine gp pM ?_
              refine gp pB ?_
              refine sp pK ?_
              refine sp pMa ?_
              refine oNil ?_
              refine aReg ?_
              refine sp pM ?_
              refine sp pAd ?_
              refine sp pMa ?_
              refine oNil ?_
              refine ⟨(i + 1, _), ?_, by (try dsimp only); omega, ⟨gInt rfl (by first | rfl | omega | simp), rfl, rfl, rfl, rfl, rfl, trivial⟩, _, (by repeat constructor)⟩
              refine ⟨by omega, ?_⟩
              rw [has_step he, ← hh]
              simp_all
        · skip
          refine aExit rfl ?_
          refine aSeq ?_
          refine aSeq ?_
          refine aReg ?_
          refine sp pM ?_
          refine sp pNo ?_
          refine sp pM ?_
          refine oSplitNot 44 rfl (fun c44 => ?_) (fun c44 => ?_)
          · skip
            refine gf ?_
            refine gf ?_
            refine gf ?_
            refine sp pK ?_
            refine oNil ?_
            refine aCondT rfl ?_
            refine aExit rfl ?_
            refine aReg ?_
            refine sp pM ?_
            refine sp pAd ?_
            refine sp pMa ?_
            refine oNil ?_
            first
              | (refine ⟨(n + 1, out, g, c, seen), ?_, by (try dsimp only); omega, ⟨gInt rfl (by first | rfl | omega | simp), gLen rfl (by first | rfl | simp | (simp; omega)), rfl, rfl, trivial⟩, _, (by repeat constructor)⟩
                 refine ⟨by omega, by omega, ?_⟩
                 rw [upTo_succ hn1]
                 obtain rfl : i = w.length := by omega
                 rw [List.take_length] at hh
                 first
                   | (have h0 : hasB w n = false := by simp_all
                      rw [h0, if_neg (by simp), List.append_nil, ho]
                      done)
                   | (have hsn : seen n = true := by simp_all
                      have hhs : hasB w n = true := by simp_all
                      rw [hhs, if_pos rfl, pcK_snoc, ← ho]
                      unfold pcS
                      rw [if_pos hsn]))
              | (refine ⟨(n + 1, _, _, _, sn), ?_, by (try dsimp only); omega, ⟨gInt rfl (by first | rfl | omega | simp), gLen rfl (by first | rfl | simp | (simp; omega)), rfl, rfl, trivial⟩, _, (by repeat constructor)⟩
                 have hsn0 : seen n = false := by simp_all
                 have hhs : hasB w n = true := by
                   obtain rfl : i = w.length := by omega
                   rw [List.take_length] at hh
                   simp_all
                 refine ⟨by omega, by omega, ?_⟩
                 rw [upTo_succ hn1, hhs, if_pos rfl, pcK_snoc, ← ho, pcS_snd (G := sn) hsn0 (fun v => by rw [hsn v]; rfl)])
          · skip
            refine gp pM ?_
            refine gp (pIa ar_104) ?_
            refine gr (by first | exact rAr ty_4 | exact rArL ty_4 | exact rArR2 ty_4 | exact rB1 ty_4) ?_
            refine sp pK ?_
            refine oNil ?_
            refine aCond rfl (fun c48 => ?_) (fun c48 => ?_)
            · skip
              refine aExit rfl ?_
              refine aReg ?_
              refine sp pM ?_
              refine sp pAd ?_
              refine sp pMa ?_
              refine oNil ?_
              first
                | (refine ⟨(n + 1, out, g, c, seen), ?_, by (try dsimp only); omega, ⟨gInt rfl (by first | rfl | omega | simp), gLen rfl (by first | rfl | simp | (simp; omega)), rfl, rfl, trivial⟩, _, (by repeat constructor)⟩
                   refine ⟨by omega, by omega, ?_⟩
                   rw [upTo_succ hn1]
                   obtain rfl : i = w.length := by omega
                   rw [List.take_length] at hh
                   first
                     | (have h0 : hasB w n = false := by simp_all
                        rw [h0, if_neg (by simp), List.append_nil, ho]
                        done)
                     | (have hsn : seen n = true := by simp_all
                        have hhs : hasB w n = true := by simp_all
                        rw [hhs, if_pos rfl, pcK_snoc, ← ho]
                        unfold pcS
                        rw [if_pos hsn]))
                | (refine ⟨(n + 1, _, _, _, sn), ?_, by (try dsimp only); omega, ⟨gInt rfl (by first | rfl | omega | simp), gLen rfl (by first | rfl | simp | (simp; omega)), rfl, rfl, trivial⟩, _, (by repeat constructor)⟩
                   have hsn0 : seen n = false := by simp_all
                   have hhs : hasB w n = true := by
                     obtain rfl : i = w.length := by omega
                     rw [List.take_length] at hh
                     simp_all
                   refine ⟨by omega, by omega, ?_⟩
                   rw [upTo_succ hn1, hhs, if_pos rfl, pcK_snoc, ← ho, pcS_snd (G := sn) hsn0 (fun v => by rw [hsn v]; rfl)])
            · skip
              refine aSkip ?_
              refine aSeq ?_
              have hnr : 1 ≤ n ∧ n ≤ 64 := by omega
              refine aReg ?_
              refine sp pM ?_
              refine sp pM ?_
              refine sp (pBuild rfl st_86 ze_86 rfl rfl rfl rfl) ?_
              refine sq ?_
              refine ci rfl rfl rfl (ref39_RF (n := n) (gone := 0) hl hok (by omega) (by omega)) ?_
              refine sq ?_
              refine qAlloc rfl rfl (by decide) ze_104 rfl (fun b8 => ?_)
              refine sa ?_
              refine oStW rfl rfl rfl rfl (by repeat constructor) ty_104 ?_
              refine oNil ?_
              refine aSeq ?_
              refine aReg ?_
              refine sq ?_
              refine qLit (l := []) rfl rfl (by decide) us_51 ty_3 ze_3 rfl (by decide) (by decide) rfl rfl rfl (fun b53 => ?_)
              refine sp pMa ?_
              refine oNil ?_
              refine aSeq ?_
              refine aSeq ?_
              refine aReg ?_
              refine sp pMa ?_
              refine oNil ?_
              refine aBlock ?_
              refine loopF (α := Nat × List Int × Option Nat × Nat × (Int → Bool)) (kept := [(0, _), (3, _), (4, _), (5, _), (8, _)]) (fun (k, pc, g2, c2, sn) => 1 ≤ k ∧ k ≤ 65 ∧ pc = upTo k (RF w n 0) ∧ ∀ v, sn v = (seen v || (decide (1 ≤ v) && (decide (v < k) && RF w n 0 v)))) (fun (k, pc, g2, c2, sn) => [(10, .int k), (9, .v (slV g2 pc.length c2))]) (fun (k, pc, g2, c2, sn) => [.sl g2 c2 3 1 (pc.map intA), .box b4 (arrF 65 (fun x => [boA x]) sn)]) (fun (k, pc, g2, c2, sn) => 65 - k) (1, [], _, _, seen) ?_ ⟨gInt rfl (by first | rfl | omega | simp), gLen rfl (by first | rfl | simp | (simp; omega)), rfl, rfl, rfl, rfl, rfl, trivial⟩ (by repeat constructor) ?_
              · skip
                exact ⟨by omega, by omega, rfl, fun v => by simp; omega⟩
              · rintro ⟨k, pc, g2, c2, sn⟩ ⟨hk1, hk, hpc, hsn⟩
                refine aSeq ?_
                refine aSeq ?_
                refine aReg ?_
                refine sp pM ?_
                refine sp pB ?_
                refine oNil ?_
                refine aCondDec rfl (fun c55 => ?_) (fun c55 => ?_)
                · skip
                  refine aSkip ?_
                  refine aSeq ?_
                  refine aBlock ?_
                  refine aSeq ?_
                  refine aReg ?_
                  refine sp pM ?_
                  refine sp (pIa ar_104) ?_
                  refine sr (by first | exact rAr ty_4 | exact rArL ty_4 | exact rArR2 ty_4 | exact rB1 ty_4) ?_
                  refine oNil ?_
                  refine aCond rfl (fun c60 => ?_) (fun c60 => ?_)
                  · skip
                    refine aSeq ?_
                    refine aReg ?_
                    refine sp pM ?_
                    refine sp (pIa ar_104) ?_
                    refine sa ?_
                    first | refine oAr rfl rfl rfl (by repeat constructor) ty_4 ?_ | refine oArL rfl rfl rfl (by repeat constructor) ty_4 ?_ | refine oArR rfl rfl rfl (by repeat constructor) (by first | rfl | exact arrF_len one_len) ty_4 ?_ | refine oStB rfl rfl rfl rfl (by repeat constructor) ty_4 rfl (Nat.le_of_ble_eq_true rfl) rfl ?_
                    refine oNil ?_
                    have hpl := upTo_len k (RF w n 0)
                    rw [← hpc] at hpl
                    refine aReg ?_
                    refine sp pM ?_
                    refine sp pM ?_
                    refine sq ?_
                    refine qLit (l := [_]) rfl rfl (by decide) us_51 ty_3 ze_3 rfl (by decide) (by decide) rfl rfl rfl (fun b65 => ?_)
                    refine sa ?_
                    refine oAppT [_] rfl rfl (by repeat constructor) (srcOwn rfl (by repeat constructor) rfl) el_51 sl_51 (fun g66 k66 => ?_)
                    refine sp pMa ?_
                    refine oNil ?_
                    refine aReg ?_
                    refine sp pM ?_
                    refine sp pAd ?_
                    refine sp pMa ?_
                    refine oNil ?_
                    refine ⟨(k + 1, _, _, _, _), ?_, by (try dsimp only); omega, ⟨gInt rfl (by first | rfl | omega | simp), gLen rfl (by first | rfl | simp | (simp; omega)), rfl, rfl, rfl, rfl, rfl, trivial⟩, _, (by repeat constructor)⟩
                    refine ⟨by omega, by omega, ?_, ?_⟩
                    · rw [upTo_succ hk1, ← hpc]
                      cases hp : RF w n 0 k <;> first
                        | (simp; done)
                        | (exfalso; simp_all; done)
                    · first
                        | exact fun v => snU hsn hk1 (by simp_all) v
                        | exact fun v => snN hsn (by simp_all) v
                  · skip
                    refine aSkip ?_
                    refine aReg ?_
                    refine sp pM ?_
                    refine sp pAd ?_
                    refine sp pMa ?_
                    refine oNil ?_
                    refine ⟨(k + 1, _, _, _, _), ?_, by (try dsimp only); omega, ⟨gInt rfl (by first | rfl | omega | simp), gLen rfl (by first | rfl | simp | (simp; omega)), rfl, rfl, rfl, rfl, rfl, trivial⟩, _, (by repeat constructor)⟩
                    refine ⟨by omega, by omega, ?_, ?_⟩
                    · rw [upTo_succ hk1, ← hpc]
                      cases hp : RF w n 0 k <;> first
                        | (simp; done)
                        | (exfalso; simp_all; done)
                    · first
                        | exact fun v => snU hsn hk1 (by simp_all) v
                        | exact fun v => snN hsn (by simp_all) v
                · skip
                  refine aExit rfl ?_
                  have hol := pcK_len w (upTo n (hasB w))
                  rw [← ho] at hol
                  have hul := upTo_len n (hasB w)
                  obtain rfl : k = 65 := by omega
                  rw [hpc]
                  refine aWeak (weak_settle (k := 9) rfl (by repeat constructor) (by first | rfl | (simp; done) | (simp; omega) | (simp_all; done))) ?_
                  refine aReg ?_
                  refine sp pM ?_
                  refine sp pM ?_
                  refine sq ?_
                  refine qLit (l := [_]) rfl rfl (by decide) us_64 ty_51 ze_51 rfl (by decide) (by decide) rfl rfl rfl (fun b69 => ?_)
                  refine sa ?_
                  refine oAppT ([upTo 65 (RF w n 0)] : List (List Int)) rfl rfl (by repeat constructor) (srcOwn rfl (by repeat constructor) rfl) el_64 sl_64 (fun g70 k70 => ?_)
                  refine sp pMa ?_
                  refine oNil ?_
                  refine aReg ?_
                  refine sp pM ?_
                  refine sp pAd ?_
                  refine sp pMa ?_
                  refine oNil ?_
                  first
                    | (refine ⟨(n + 1, out, g, c, seen), ?_, by (try dsimp only); omega, ⟨gInt rfl (by first | rfl | omega | simp), gLen rfl (by first | rfl | simp | (simp; omega)), rfl, rfl, trivial⟩, _, (by repeat constructor)⟩
                       refine ⟨by omega, by omega, ?_⟩
                       rw [upTo_succ hn1]
                       obtain rfl : i = w.length := by omega
                       rw [List.take_length] at hh
                       first
                         | (have h0 : hasB w n = false := by simp_all
                            rw [h0, if_neg (by simp), List.append_nil, ho]
                            done)
                         | (have hsn : seen n = true := by simp_all
                            have hhs : hasB w n = true := by simp_all
                            rw [hhs, if_pos rfl, pcK_snoc, ← ho]
                            unfold pcS
                            rw [if_pos hsn]))
                    | (refine ⟨(n + 1, _, _, _, sn), ?_, by (try dsimp only); omega, ⟨gInt rfl (by first | rfl | omega | simp), gLen rfl (by first | rfl | simp | (simp; omega)), rfl, rfl, trivial⟩, _, (by repeat constructor)⟩
                       have hsn0 : seen n = false := by simp_all
                       have hhs : hasB w n = true := by
                         obtain rfl : i = w.length := by omega
                         rw [List.take_length] at hh
                         simp_all
                       refine ⟨by omega, by omega, ?_⟩
                       rw [upTo_succ hn1, hhs, if_pos rfl, pcK_snoc, ← ho, pcS_snd (G := sn) hsn0 (fun v => by rw [hsn v]; rfl)])
    · skip
      refine aExit rfl ?_
      refine aSeq ?_
      refine aReg ?_
      refine sp pM ?_
      refine sp pMa ?_
      refine oNil ?_
      refine aRet ?_
      refine finOwn rfl ?_
      obtain rfl : n = 65 := by omega
      have : out = pcL w := congrArg Prod.fst ho
      rw [this]
end A
end Go.Proofs.Ytnabkchagjjjnaa
set_option linter.unusedVariables false
set_option linter.unusedSimpArgs false
namespace Go.Proofs.Ytnabkchagjjjnaa
namespace A
def Adj (e : Ed) (x y : Int) : Prop := (e.a = x ∧ e.b = y) ∨ (e.b = x ∧ e.a = y)
theorem Adj.symm {e : Ed} {x y : Int} (h : Adj e x y) : Adj e y x := h.elim (fun h => .inr ⟨h.2, h.1⟩) (fun h => .inl ⟨h.2, h.1⟩)
theorem Conn.adj {E : Ed → Prop} {e : Ed} {a x y : Int} (k : Conn E a x) (he : E e) (h : Adj e x y) : Conn E a y := by
  rcases h with ⟨h1, h2⟩ | ⟨h1, h2⟩
  · subst h2; exact .up k he h1
  · subst h2; exact .down k he h1
theorem Conn.one {E : Ed → Prop} {e : Ed} {x y : Int} (he : E e) (h : Adj e x y) : Conn E x y := (Conn.refl x).adj he h
theorem Conn.ind {E : Ed → Prop} {Q : Int → Prop} {a b : Int} (k : Conn E a b) (h0 : Q a) (h1 : ∀ e, E e → ∀ x y, Adj e x y → Q x → Q y) : Q b := by
  induction k with
  | refl => exact h0
  | up _ he hm ih => exact h1 _ he _ _ (.inl ⟨hm, rfl⟩) ih
  | down _ he hm ih => exact h1 _ he _ _ (.inr ⟨hm, rfl⟩) ih
def tch (e : Ed) (Q : Int → Prop) : Prop := Q e.a ∨ Q e.b
theorem tch_adj {e : Ed} {Q : Int → Prop} (h : tch e Q) : ∃ u z, Adj e u z ∧ Q u := h.elim (fun h => ⟨_, _, .inl ⟨rfl, rfl⟩, h⟩) (fun h => ⟨_, _, .inr ⟨rfl, rfl⟩, h⟩)
theorem Adj.tch {e : Ed} {x y : Int} {Q : Int → Prop} (h : Adj e x y) (hq : Q x) : tch e Q := by
  rcases h with ⟨h1, h2⟩ | ⟨h1, h2⟩
  · exact .inl (by rw [h1]; exact hq)
  · exact .inr (by rw [h1]; exact hq)
theorem Adj.both {e : Ed} {x y : Int} {Q : Int → Prop} (h : Adj e x y) (hq : Q e.a ∧ Q e.b) : Q x ∧ Q y := by
  rcases h with ⟨h1, h2⟩ | ⟨h1, h2⟩
  · rw [← h1, ← h2]; exact hq
  · rw [← h1, ← h2]; exact ⟨hq.2, hq.1⟩
theorem Adj.mk2 {e : Ed} {x y : Int} {Q : Int → Prop} (h : Adj e x y) (hx : Q x) (hy : Q y) : Q e.a ∧ Q e.b := by
  rcases h with ⟨h1, h2⟩ | ⟨h1, h2⟩
  · rw [h1, h2]; exact ⟨hx, hy⟩
  · rw [h1, h2]; exact ⟨hy, hx⟩
structure WOk (w : List Ed) : Prop where
  ok : ∀ e ∈ w, EOk e ∧ e.a ≠ e.b
  one : ∀ e ∈ w, ∀ f ∈ w, ∀ x y, Adj e x y → Adj f x y → e = f
theorem WOk.z {w : List Ed} (h : WOk w) : edZ ∉ w := fun hm => by
  have := (h.ok _ hm).1
  unfold EOk edZ at this
  simp at this
theorem WOk.ne {w : List Ed} (h : WOk w) {e : Ed} (he : e ∈ w) {x y : Int} (ha : Adj e x y) : x ≠ y := by
  have := (h.ok e he).2
  rcases ha with ⟨h1, h2⟩ | ⟨h1, h2⟩ <;> omega
theorem WOk.snd {w : List Ed} (h : WOk w) {e : Ed} (he : e ∈ w) {x y z : Int} (h1 : Adj e x y) (h2 : Adj e x z) : y = z := by
  have := (h.ok e he).2
  rcases h1 with ⟨h1, h3⟩ | ⟨h1, h3⟩ <;> rcases h2 with ⟨h2, h4⟩ | ⟨h2, h4⟩ <;> omega
def inW (w : List Ed) : Ed → Prop := fun e => e ∈ w
def inS (w : List Ed) (S : List Int) : Ed → Prop := fun e => e ∈ w ∧ e.a ∈ S ∧ e.b ∈ S
def exE (w : List Ed) (e0 : Ed) : Ed → Prop := fun e => e ∈ w ∧ e ≠ e0
def exN (w : List Ed) (n : Int) : Ed → Prop := fun e => e ∈ w ∧ e.a ≠ n ∧ e.b ≠ n
def Brg (w : List Ed) (e : Ed) : Prop := ¬ Conn (exE w e) e.a e.b
def Jnt (w : List Ed) (n : Int) : Prop := ∃ a b, a ≠ n ∧ b ≠ n ∧ Conn (inW w) a n ∧ Conn (inW w) a b ∧ ¬ Conn (exN w n) a b
theorem Brg.adj {w : List Ed} {e : Ed} {x y : Int} (h : Adj e x y) : Brg w e ↔ ¬ Conn (exE w e) x y := by
  unfold Brg
  rcases h with ⟨h1, h2⟩ | ⟨h1, h2⟩
  · rw [h1, h2]
  · rw [h1, h2]; exact ⟨fun h k => h k.symm, fun h k => h k.symm⟩
theorem Conn.inW_of {w : List Ed} {S : List Int} {a b : Int} (h : Conn (inS w S) a b) : Conn (inW w) a b := h.mono fun e he => he.1
theorem Conn.exN_of {w : List Ed} {S : List Int} {n a b : Int} (hn : n ∉ S) (h : Conn (inS w S) a b) : Conn (exN w n) a b :=
  h.mono fun e he => ⟨he.1, fun e2 => hn (by rw [← e2]; exact he.2.1), fun e2 => hn (by rw [← e2]; exact he.2.2)⟩
theorem Conn.exE_of {w : List Ed} {S : List Int} {e : Ed} {x y a b : Int} (hx : Adj e x y) (hn : x ∉ S) (h : Conn (inS w S) a b) : Conn (exE w e) a b :=
  h.mono fun f hf => ⟨hf.1, fun e2 => by subst e2; exact hn (hx.both (Q := fun z => z ∈ S) hf.2).1⟩
theorem Conn.inS_mono {w : List Ed} {S S' : List Int} {a b : Int} (hs : ∀ x ∈ S, x ∈ S') (h : Conn (inS w S) a b) : Conn (inS w S') a b := h.mono fun e he => ⟨he.1, hs _ he.2.1, hs _ he.2.2⟩
theorem adj_exN {w : List Ed} {n : Int} {e : Ed} {x y : Int} (he : e ∈ w) (h : Adj e x y) (hx : x ≠ n) (hy : y ≠ n) : exN w n e := ⟨he, h.mk2 (Q := fun z => z ≠ n) hx hy⟩
theorem exN_adj {w : List Ed} {n : Int} {e : Ed} {x y : Int} (he : exN w n e) (h : Adj e x y) : x ≠ n ∧ y ≠ n := h.both (Q := fun z => z ≠ n) he.2
def ClS (w : List Ed) (S : List Int) (x : Int) : Prop := ∀ e ∈ w, ∀ y, Adj e x y → y ∈ S
theorem ClS.mono {w : List Ed} {S S' : List Int} {x : Int} (hs : ∀ x ∈ S, x ∈ S') (h : ClS w S x) : ClS w S' x := fun e he y ha => hs _ (h e he y ha)
/-! ### The order in which nodes are found -/
def fmF : Nat → List Int → List (Int × Int)
  | _, [] => []
  | k, x :: t => (x, ((k + 1 : Nat) : Int)) :: fmF (k + 1) t
theorem fmF_keys : ∀ (S : List Int) (k : Nat), mKeys (fmF k S) = S
  | [], _ => rfl
  | x :: t, k => by
    show x :: mKeys (fmF (k + 1) t) = _
    rw [fmF_keys t]
theorem fmF_len : ∀ (S : List Int) (k : Nat), (fmF k S).length = S.length
  | [], _ => rfl
  | x :: t, k => by
    show (fmF (k + 1) t).length + 1 = _
    rw [fmF_len t]
    rfl
theorem fmF_rng : ∀ {S : List Int} {k : Nat} {x v : Int}, mGet (fmF k S) x = some v → (k : Int) < v ∧ v ≤ k + S.length
  | [], _, _, _, h => by simp [fmF, mGet] at h
  | y :: t, k, x, v, h => by
    simp only [fmF, mGet] at h
    rw [List.length_cons]
    split at h
    · simp at h; omega
    · have := fmF_rng h; omega
theorem fmF_app : ∀ {S T : List Int} {k : Nat}, fmF k (S ++ T) = fmF k S ++ fmF (k + S.length) T
  | [], _, _ => rfl
  | x :: t, T, k => by
    show _ :: fmF (k + 1) (t ++ T) = _ :: (fmF (k + 1) t ++ _)
    rw [fmF_app (S := t), List.length_cons, show k + 1 + t.length = k + (t.length + 1) by omega]
def rk (S : List Int) (x : Int) : Int := (mGet (fmF 0 S) x).getD 0
theorem mem_some {S : List Int} {k : Nat} {x : Int} (h : x ∈ S) : ∃ v, mGet (fmF k S) x = some v := by
  have : (mGet (fmF k S) x).isSome = true := mGet_mem.2 (by rw [fmF_keys]; exact h)
  exact Option.isSome_iff_exists.1 this
theorem rk_some {S : List Int} {x : Int} (h : x ∈ S) : mGet (fmF 0 S) x = some (rk S x) := by
  obtain ⟨v, hv⟩ := mem_some (k := 0) h
  unfold rk
  rw [hv]
  rfl
theorem rk_rng {S : List Int} {x : Int} (h : x ∈ S) : 1 ≤ rk S x ∧ rk S x ≤ S.length := by
  have := fmF_rng (rk_some h)
  omega
theorem rk_old {S T : List Int} {x : Int} (h : x ∈ S) : rk (S ++ T) x = rk S x := by
  have h1 := rk_some h
  have h2 := mGet_app (k := fmF (0 + S.length) T) h1
  rw [← fmF_app] at h2
  have h3 := rk_some (S := S ++ T) (List.mem_append_left _ h)
  rw [h2] at h3
  exact (Option.some.inj h3).symm
theorem mGet_app_no {β : Type} {n : Int} : ∀ {m k : List (Int × β)}, n ∉ mKeys m → mGet (m ++ k) n = mGet k n
  | [], _, _ => rfl
  | (j, u) :: t, k, h => by
    have h1 : ¬ n = j := fun e => h (by rw [e]; simp [mKeys])
    have h2 : n ∉ mKeys t := fun e => h (by simp [mKeys] at e ⊢; exact .inr e)
    simp only [mGet, List.cons_append]
    rw [if_neg h1, mGet_app_no h2]
theorem rk_new {S T : List Int} {x : Int} (h : x ∉ S) (ht : x ∈ T) : (S.length : Int) + 1 ≤ rk (S ++ T) x := by
  obtain ⟨v, hv⟩ := mem_some (k := 0 + S.length) ht
  have h3 := rk_some (S := S ++ T) (List.mem_append_right _ ht)
  rw [fmF_app, mGet_app_no (by rw [fmF_keys]; exact h), hv] at h3
  have := fmF_rng hv
  have := Option.some.inj h3
  omega
theorem rk_hd {S T : List Int} {n : Int} (h : n ∉ S) : rk (S ++ n :: T) n = S.length + 1 := by
  unfold rk
  rw [fmF_app, mGet_app_no (by rw [fmF_keys]; exact h)]
  simp [fmF, mGet]
theorem fm_put {S : List Int} {n : Int} (h : n ∉ S) : mPut (fmF 0 S) n ((S.length : Int) + 1) = fmF 0 (S ++ [n]) := by
  rw [mPut_new (by rw [fmF_keys]; exact h), fmF_app]
  simp [fmF]
/-! ### A visit -/
abbrev Par := Option (Int × Ed)
def byE : Par → Ed
  | none => edZ
  | some p => p.2
structure VPre (w : List Ed) (S : List Int) (n : Int) (par : Par) : Prop where
  nd : S.Nodup
  new : n ∉ S
  pr : ∀ p e, par = some (p, e) → e ∈ w ∧ Adj e p n ∧ p ∈ S
  opn : ∀ x ∈ S, ClS w S x ∨ ∃ p e, par = some (p, e) ∧ rk S x ≤ rk S p ∧ Conn (inS w S) x p
structure VPost (w : List Ed) (S : List Int) (n : Int) (par : Par) (lo0 : Int → Int) (j0 : Int → Prop) (T : List Int) (lo : Int → Int) (add tr : List Ed) (j : Int → Prop) : Prop where
  hd : n ∈ T
  nd : (S ++ T).Nodup
  cl : ∀ u ∈ T, ClS w (S ++ T) u
  con : ∀ u ∈ T, Conn (inS w T) n u
  l1 : lo n ≤ S.length + 1
  l2 : ∀ e ∈ w, e ≠ byE par → ∀ u ∈ T, ∀ x ∈ S, Adj e u x → lo n ≤ rk S x
  l3 : lo n = S.length + 1 ∨ ∃ e ∈ w, e ≠ byE par ∧ ∃ u ∈ T, ∃ x ∈ S, Adj e u x ∧ lo n = rk S x
  lk : ∀ x ∈ S, lo x = lo0 x
  b1 : ∀ e ∈ add, e ∈ w ∧ e.a ∈ T ∧ e.b ∈ T
  b2 : add.Nodup
  b3 : ∀ e ∈ w, e ≠ byE par → tch e (· ∈ T) → (e ∈ add ↔ Brg w e)
  jn : ∀ v, j v ↔ j0 v ∨ (v ∈ T ∧ Jnt w v)
  t1 : ∀ e ∈ tr, e ∈ w ∧ e.a ∈ T ∧ e.b ∈ T
  t2 : tr.Nodup
  t3 : tr.length + 1 = T.length
  t4 : ∀ e ∈ w, e ≠ byE par → tch e (· ∈ T) → e ∉ tr → ¬ Brg w e
  t5 : ∀ e ∈ tr, ¬ Brg w e → ∃ f ∈ w, f ≠ byE par ∧ tch f (· ∈ T) ∧ (f.a ∈ S ++ T ∧ f.b ∈ S ++ T) ∧ f ∉ tr
structure VI (w : List Ed) (S : List Int) (n : Int) (par : Par) (lo0 : Int → Int) (j0 : Int → Prop) (P : List Ed) (T : List Int) (lo : Int → Int) (add tr : List Ed) (j : Int → Prop) (un : Nat) : Prop where
  hd : ∃ T', T = n :: T'
  nd : (S ++ T).Nodup
  c1 : ∀ u ∈ T, u ≠ n → ClS w (S ++ T) u
  c2 : ∀ e ∈ P, ∀ y, Adj e n y → y ∈ S ++ T
  con : ∀ u ∈ T, Conn (inS w T) n u
  l1 : lo n ≤ S.length + 1
  l2 : ∀ e ∈ w, e ≠ byE par → ∀ u ∈ T, ∀ x ∈ S, Adj e u x → (u ≠ n ∨ e ∈ P) → lo n ≤ rk S x
  l3 : lo n = S.length + 1 ∨ ∃ e ∈ w, e ≠ byE par ∧ ∃ u ∈ T, ∃ x ∈ S, Adj e u x ∧ lo n = rk S x
  lk : ∀ x ∈ S, lo x = lo0 x
  b1 : ∀ e ∈ add, e ∈ w ∧ e.a ∈ T ∧ e.b ∈ T
  b2 : add.Nodup
  b3 : ∀ e ∈ w, e ≠ byE par → (tch e (fun v => v ∈ T ∧ v ≠ n) ∨ e ∈ P) → (e ∈ add ↔ Brg w e)
  j1 : ∀ v, v ≠ n → (j v ↔ j0 v ∨ (v ∈ T ∧ Jnt w v))
  j2 : par ≠ none → j n → Jnt w n
  j3 : ∀ p e, par = some (p, e) → ¬ j n → ∀ u ∈ T, u ≠ n → Conn (exN w n) u p
  j4 : par = none → ¬ j n
  u0 : un = 0 → ∀ u ∈ T, u = n
  u1 : un ≤ 1 → par = none → ∀ u ∈ T, ∀ v ∈ T, u ≠ n → v ≠ n → Conn (exN w n) u v
  u2 : 1 ≤ un → ∃ u ∈ T, u ≠ n
  u3 : 2 ≤ un → par = none → Jnt w n
  t1 : ∀ e ∈ tr, e ∈ w ∧ e.a ∈ T ∧ e.b ∈ T
  t2 : tr.Nodup
  t3 : tr.length + 1 = T.length
  t4 : ∀ e ∈ w, e ≠ byE par → (tch e (fun v => v ∈ T ∧ v ≠ n) ∨ e ∈ P) → e ∉ tr → ¬ Brg w e
  t5 : ∀ e ∈ tr, ¬ Brg w e → ∃ f ∈ w, f ≠ byE par ∧ tch f (· ∈ T) ∧ (f.a ∈ S ++ T ∧ f.b ∈ S ++ T) ∧ f ∉ tr
theorem mem_no {S T : List Int} (h : (S ++ T).Nodup) {x : Int} (hx : x ∈ S) : x ∉ T := fun ht => (List.nodup_append.1 h).2.2 x hx x ht rfl
theorem VI.start {w : List Ed} (W : WOk w) {S : List Int} {n : Int} {par : Par} {lo0 lo : Int → Int} {j0 : Int → Prop} (V : VPre w S n par) (hlo : lo n = S.length + 1) (hl : ∀ x ∈ S, lo x = lo0 x) (hj : ¬ j0 n) : VI w S n par lo0 j0 [] [n] lo [] [] j0 0 where
  hd := ⟨[], rfl⟩
  nd := List.nodup_append.2 ⟨V.nd, by simp, fun x hx y hy e => by rw [List.mem_singleton.1 hy] at e; subst e; exact V.new hx⟩
  c1 := fun u hu hne => absurd (List.mem_singleton.1 hu) hne
  c2 := fun e he => by simp at he
  con := fun u hu => by rw [List.mem_singleton.1 hu]; exact .refl _
  l1 := by omega
  l2 := fun e he hb u hu x hx ha h => by
    rcases h with h | h
    · exact absurd (List.mem_singleton.1 hu) h
    · simp at h
  l3 := .inl hlo
  lk := hl
  b1 := fun e he => by simp at he
  b2 := .nil
  b3 := fun e he hb h => by
    rcases h with h | h
    · rcases h with h | h <;> exact absurd (List.mem_singleton.1 h.1) h.2
    · simp at h
  j1 := fun v hv => ⟨.inl, fun h => h.elim id fun h => absurd (List.mem_singleton.1 h.1) hv⟩
  j2 := fun _ h => absurd h hj
  j3 := fun p e _ _ u hu hne => absurd (List.mem_singleton.1 hu) hne
  j4 := fun _ => hj
  u0 := fun _ u hu => List.mem_singleton.1 hu
  u1 := fun _ _ u hu v hv hne => absurd (List.mem_singleton.1 hu) hne
  u2 := fun h => by omega
  u3 := fun h => by omega
  t1 := fun e he => by simp at he
  t2 := .nil
  t3 := rfl
  t4 := fun e he hb h => by
    rcases h with h | h
    · rcases h with h | h <;> exact absurd (List.mem_singleton.1 h.1) h.2
    · simp at h
  t5 := fun e he => by simp at he
section
variable {w : List Ed} {S : List Int} {n : Int} {par : Par} {lo0 lo : Int → Int} {j0 j : Int → Prop} {P : List Ed} {T : List Int} {add tr : List Ed} {un : Nat}
theorem VI.hm (I : VI w S n par lo0 j0 P T lo add tr j un) : n ∈ T := by obtain ⟨T', h⟩ := I.hd; rw [h]; simp
theorem VI.nS (I : VI w S n par lo0 j0 P T lo add tr j un) : n ∉ S := fun h => mem_no I.nd h I.hm
theorem VI.rkn (I : VI w S n par lo0 j0 P T lo add tr j un) : rk (S ++ T) n = S.length + 1 := by
  obtain ⟨T', h⟩ := I.hd
  have := I.nS
  subst h
  exact rk_hd this
theorem VI.opn (I : VI w S n par lo0 j0 P T lo add tr j un) (V : VPre w S n par) {x : Int} (hx : x ∈ S ++ T) (hc : ¬ ClS w (S ++ T) x) : x = n ∨ (x ∈ S ∧ ∃ p e, par = some (p, e) ∧ Conn (inS w S) x p) := by
  rcases List.mem_append.1 hx with hx | hx
  · right
    rcases V.opn x hx with h | ⟨p, e, h1, h2, h3⟩
    · exact absurd (h.mono fun y hy => List.mem_append_left _ hy) hc
    · exact ⟨hx, p, e, h1, h3⟩
  · left
    exact Classical.byContradiction fun hne => hc (I.c1 x hx hne)
/-- From an open node of those that were found first, back to the node, without an edge that has an end elsewhere. -/
theorem VPre.back (V : VPre w S n par) {x p : Int} {ep e : Ed} (hp : par = some (p, ep)) (hc : Conn (inS w S) x p) {z : Int} (ha : Adj e n z) (hne : e ≠ ep) : Conn (exE w e) x n := by
  obtain ⟨h1, h2, h3⟩ := V.pr p ep hp
  exact (hc.exE_of ha V.new).adj ⟨h1, fun e2 => hne e2.symm⟩ h2
theorem VI.seen (W : WOk w) (V : VPre w S n par) (I : VI w S n par lo0 j0 P T lo add tr j un) {e : Ed} (he : e ∈ w) {y : Int} (ha : Adj e n y) (hy : y ∈ S ++ T) {lo' : Int → Int} (h1 : lo' n = if e ≠ byE par then min (lo n) (rk (S ++ T) y) else lo n) (h2 : ∀ x, x ≠ n → lo' x = lo x) :
    VI w S n par lo0 j0 (P ++ [e]) T lo' add tr j un := by
  have hle : lo' n ≤ lo n := by rw [h1]; split <;> omega
  have hyn : y ≠ n := fun e2 => W.ne he ha e2.symm
  have key : e ≠ byE par → y ∈ S → ¬ Brg w e := fun hb hyS => by
    rw [Brg.adj ha]
    refine fun hn => hn ?_
    rcases V.opn y hyS with h | ⟨p, ep, hp, _, hc⟩
    · exact absurd (h e he n ha.symm) V.new
    · have hbe : byE par = ep := by rw [hp]; rfl
      exact (V.back hp hc ha (by rw [← hbe]; exact hb)).symm
  refine { I with c2 := ?_, l1 := by have := I.l1; omega, l2 := ?_, l3 := ?_, lk := ?_, b3 := ?_, t4 := ?_ }
  · intro f hf z hz
    rcases List.mem_append.1 hf with hf | hf
    · exact I.c2 f hf z hz
    · rw [List.mem_singleton.1 hf] at hz
      rw [← W.snd he ha hz]
      exact hy
  · intro f hf hb u hu x hx hax h
    by_cases hold : u ≠ n ∨ f ∈ P
    · have := I.l2 f hf hb u hu x hx hax hold
      omega
    · have hun : u = n := Classical.byContradiction fun h => hold (.inl h)
      have hfe : f = e := by
        rcases h with h | h
        · exact absurd hun h
        · rcases List.mem_append.1 h with h | h
          · exact absurd (.inr h) hold
          · exact List.mem_singleton.1 h
      subst hun; subst hfe
      rw [W.snd he hax ha] at hx ⊢
      rw [h1, if_pos hb, rk_old hx]
      omega
  · by_cases hb : e ≠ byE par
    · rw [if_pos hb] at h1
      by_cases hlt : rk (S ++ T) y < lo n
      · have hyS : y ∈ S := by
          rcases List.mem_append.1 hy with h | h
          · exact h
          · have h3 := rk_new (S := S) (fun h2 => mem_no I.nd h2 h) h
            have := I.l1
            omega
        exact .inr ⟨e, he, hb, n, I.hm, y, hyS, ha, by rw [h1, rk_old hyS]; rw [rk_old hyS] at hlt; omega⟩
      · have : lo' n = lo n := by rw [h1]; omega
        rw [this]
        exact I.l3
    · rw [if_neg hb] at h1
      rw [h1]
      exact I.l3
  · intro x hx
    rw [h2 x (fun e2 => I.nS (by rw [← e2]; exact hx))]
    exact I.lk x hx
  · intro f hf hb h
    by_cases hold : tch f (fun v => v ∈ T ∧ v ≠ n) ∨ f ∈ P
    · exact I.b3 f hf hb hold
    · have hfe : f = e := by
        rcases h with h | h
        · exact absurd (.inl h) hold
        · rcases List.mem_append.1 h with h | h
          · exact absurd (.inr h) hold
          · exact List.mem_singleton.1 h
      subst hfe
      rcases List.mem_append.1 hy with hyS | hyT
      · refine ⟨fun hm => absurd (ha.both (Q := fun z => z ∈ T) (I.b1 f hm).2).2 (mem_no I.nd hyS), fun h => absurd h (key hb hyS)⟩
      · exact absurd (.inl (ha.symm.tch (Q := fun v => v ∈ T ∧ v ≠ n) ⟨hyT, hyn⟩)) hold
  · intro f hf hb h hnt
    by_cases hold : tch f (fun v => v ∈ T ∧ v ≠ n) ∨ f ∈ P
    · exact I.t4 f hf hb hold hnt
    · have hfe : f = e := by
        rcases h with h | h
        · exact absurd (.inl h) hold
        · rcases List.mem_append.1 h with h | h
          · exact absurd (.inr h) hold
          · exact List.mem_singleton.1 h
      subst hfe
      rcases List.mem_append.1 hy with hyS | hyT
      · exact key hb hyS
      · exact absurd (.inl (ha.symm.tch (Q := fun v => v ∈ T ∧ v ≠ n) ⟨hyT, hyn⟩)) hold
theorem VI.pre (V : VPre w S n par) (I : VI w S n par lo0 j0 P T lo add tr j un) {e : Ed} (he : e ∈ w) {y : Int} (ha : Adj e n y) (hy : y ∉ S ++ T) : VPre w (S ++ T) y (some (n, e)) where
  nd := I.nd
  new := hy
  pr := fun p f h => by
    obtain ⟨rfl, rfl⟩ := Prod.mk.inj (Option.some.inj h)
    exact ⟨he, ha, List.mem_append_right _ I.hm⟩
  opn := fun x hx => by
    by_cases hc : ClS w (S ++ T) x
    · exact .inl hc
    · refine .inr ⟨n, e, rfl, ?_, ?_⟩
      · rcases I.opn V hx hc with rfl | ⟨h, _⟩
        · exact Int.le_refl _
        · rw [I.rkn, rk_old h]
          have := rk_rng h
          omega
      · rcases I.opn V hx hc with rfl | ⟨h, p, ep, hp, h2⟩
        · exact .refl _
        · obtain ⟨g1, g2, g3⟩ := V.pr p ep hp
          exact (h2.inS_mono fun z hz => List.mem_append_left _ hz).adj ⟨g1, g2.mk2 (Q := fun z => z ∈ S ++ T) (List.mem_append_left _ g3) (List.mem_append_right _ I.hm)⟩ g2
end
end A
end Go.Proofs.Ytnabkchagjjjnaa
set_option linter.unusedVariables false
set_option linter.unusedSimpArgs false
namespace Go.Proofs.Ytnabkchagjjjnaa
namespace A
theorem adj_snd {e : Ed} {x y z : Int} {S : List Int} (h1 : Adj e x y) (h2 : Adj e x z) (hx : x ∉ S) (hy : y ∈ S) : y = z := by
  have hne : x ≠ y := fun e2 => hx (by rw [e2]; exact hy)
  rcases h1 with ⟨h1, h3⟩ | ⟨h1, h3⟩ <;> rcases h2 with ⟨h2, h4⟩ | ⟨h2, h4⟩ <;> omega
section
variable {w : List Ed} {S : List Int} {n : Int} {par : Par} {lo0 lo : Int → Int} {j0 j : Int → Prop} {P : List Ed} {T : List Int} {add tr : List Ed} {un : Nat}
variable {e : Ed} {y : Int} {Tc : List Int} {lo1 : Int → Int} {addc trc : List Ed} {j1 : Int → Prop}
theorem ch_open (V : VPre w S n par) (I : VI w S n par lo0 j0 P T lo add tr j un) (C : VPost w (S ++ T) y (some (n, e)) lo j Tc lo1 addc trc j1) {f : Ed} (hf : f ∈ w) {u x : Int} (hu : u ∈ Tc) (hx : x ∈ S ++ T) (ha : Adj f u x) : x = n ∨ (x ∈ S ∧ ∃ p ep, par = some (p, ep) ∧ Conn (inS w S) x p) :=
  I.opn V hx fun hc => mem_no C.nd (hc f hf u ha.symm) hu
theorem ch_brg (V : VPre w S n par) (I : VI w S n par lo0 j0 P T lo add tr j un) (he : e ∈ w) (ha : Adj e n y) (hy : y ∉ S ++ T) (C : VPost w (S ++ T) y (some (n, e)) lo j Tc lo1 addc trc j1) :
    (lo1 y > S.length + 1 → Brg w e) ∧ (¬ lo1 y > S.length + 1 → ¬ Brg w e ∧ ∃ f ∈ w, f ≠ e ∧ ∃ u ∈ Tc, ∃ x ∈ S ++ T, Adj f u x) := by
  have hnC : n ∉ Tc := mem_no C.nd (List.mem_append_right _ I.hm)
  constructor
  · intro hlt
    rw [Brg.adj ha.symm]
    intro k
    refine hnC (k.ind (Q := fun z => z ∈ Tc) C.hd fun f hf u z hz hu => ?_)
    rcases List.mem_append.1 (C.cl u hu f hf.1 z hz) with h | h
    · exfalso
      have h2 := C.l2 f hf.1 hf.2 u hu z h hz
      rcases ch_open V I C hf.1 hu h hz with rfl | ⟨h3, _⟩
      · rw [I.rkn] at h2; omega
      · rw [rk_old h3] at h2
        have := rk_rng h3
        omega
    · exact h
  · intro hle
    have hlen : (S.length : Int) + 1 ≤ ((S ++ T).length : Nat) := by
      obtain ⟨T', hT⟩ := I.hd
      rw [List.length_append, hT]
      simp only [List.length_cons]
      omega
    rcases C.l3 with h | ⟨f, hf, hfe, u, hu, x, hx, hax, _⟩
    · omega
    · refine ⟨?_, f, hf, hfe, u, hu, x, hx, hax⟩
      rw [Brg.adj ha]
      refine fun hn => hn ?_
      have k1 : Conn (exE w e) n x := by
        rcases ch_open V I C hf hu hx hax with rfl | ⟨h3, p, ep, hp, hc⟩
        · exact .refl _
        · refine (V.back hp hc ha (fun e2 => ?_)).symm
          obtain ⟨g1, g2, g3⟩ := V.pr p ep hp
          subst e2
          exact hy (by rw [← adj_snd g2.symm ha (V.new) g3]; exact List.mem_append_left _ g3)
      have k2 : Conn (exE w e) y u := (C.con u hu).exE_of ha hnC
      exact ((k1.adj ⟨hf, hfe⟩ hax.symm).trans k2.symm)
theorem VI.child (W : WOk w) (V : VPre w S n par) (I : VI w S n par lo0 j0 P T lo add tr j un) (he : e ∈ w) (ha : Adj e n y) (hy : y ∉ S ++ T) (C : VPost w (S ++ T) y (some (n, e)) lo j Tc lo1 addc trc j1)
    {lo2 : Int → Int} (h1 : lo2 n = min (lo1 n) (lo1 y)) (h2 : ∀ x, x ≠ n → lo2 x = lo1 x) {add2 : List Ed} (h3 : add2 = (add ++ addc) ++ if lo1 y > S.length + 1 then [e] else []) {j2 : Int → Prop} (h4 : ∀ v, j2 v ↔ j1 v ∨ (v = n ∧ par ≠ none ∧ lo1 y ≥ S.length + 1)) :
    VI w S n par lo0 j0 (P ++ [e]) (T ++ Tc) lo2 add2 (tr ++ e :: trc) j2 (un + 1) := by
  have hnS := I.nS
  have hnC : n ∉ Tc := mem_no C.nd (List.mem_append_right _ I.hm)
  have hSC : ∀ x ∈ S, x ∉ Tc := fun x hx => mem_no C.nd (List.mem_append_left _ hx)
  have hTC : ∀ x ∈ T, x ∉ Tc := fun x hx => mem_no C.nd (List.mem_append_right _ hx)
  have hST : ∀ x ∈ S, x ∉ T := fun x hx => mem_no I.nd hx
  have hyn : y ≠ n := fun e2 => W.ne he ha e2.symm
  have hyT : y ∉ T := fun h => hy (List.mem_append_right _ h)
  have hyS : y ∉ S := fun h => hy (List.mem_append_left _ h)
  have hbrg := ch_brg V I he ha hy C
  have hln : lo1 n = lo n := C.lk n (List.mem_append_right _ I.hm)
  have hlen : (S.length : Int) + 1 ≤ ((S ++ T).length : Nat) := by
    obtain ⟨T', hT⟩ := I.hd
    rw [List.length_append, hT]
    simp only [List.length_cons]
    omega
  have hpe : ∀ p ep, par = some (p, ep) → p ∈ S ∧ p ≠ n ∧ ep ∈ w ∧ Adj ep p n := fun p ep hp => by
    obtain ⟨g1, g2, g3⟩ := V.pr p ep hp
    exact ⟨g3, fun e2 => hnS (by rw [← e2]; exact g3), g1, g2⟩
  have hby : ∀ f, tch f (· ∈ Tc) → f ∈ w → f ≠ byE par := fun f hf hw e2 => by
    cases hp : par with
    | none => rw [hp] at e2; rw [e2] at hw; exact W.z hw
    | some q =>
      obtain ⟨p, ep⟩ := q
      obtain ⟨g1, g2, g3, g4⟩ := hpe p ep hp
      rw [hp] at e2
      have e3 : f = ep := e2
      subst e3
      obtain ⟨u, z, hz, hu⟩ := tch_adj hf
      rcases hz with ⟨a1, a2⟩ | ⟨a1, a2⟩ <;> rcases g4 with ⟨b1, b2⟩ | ⟨b1, b2⟩
      · exact hSC p g1 (by rw [← b1, a1]; exact hu)
      · exact hnC (by rw [← b2, a1]; exact hu)
      · exact hnC (by rw [← b2, a1]; exact hu)
      · exact hSC p g1 (by rw [← b1, a1]; exact hu)
  have het : tch e (· ∈ Tc) := ha.symm.tch (Q := (· ∈ Tc)) C.hd
  have hebe : e ≠ byE par := hby e het he
  have headd : e ∉ add := fun h => hyT (ha.both (Q := (· ∈ T)) (I.b1 e h).2).2
  have headdc : e ∉ addc := fun h => hnC (ha.both (Q := (· ∈ Tc)) (C.b1 e h).2).1
  have hetr : e ∉ tr := fun h => hyT (ha.both (Q := (· ∈ T)) (I.t1 e h).2).2
  have hetrc : e ∉ trc := fun h => hnC (ha.both (Q := (· ∈ Tc)) (C.t1 e h).2).1
  have hnotT : ∀ f, tch f (· ∈ Tc) → ¬ (f.a ∈ T ∧ f.b ∈ T) := fun f hf h => hf.elim (fun h2 => hTC _ h.1 h2) (fun h2 => hTC _ h.2 h2)
  have hnotC : ∀ f, ¬ tch f (· ∈ Tc) → ¬ (f.a ∈ Tc ∧ f.b ∈ Tc) := fun f hf h => hf (.inl h.1)
  have hsplit : ∀ f, (tch f (fun v => v ∈ T ++ Tc ∧ v ≠ n) ∨ f ∈ P ++ [e]) → f = e ∨ (f ≠ e ∧ tch f (· ∈ Tc)) ∨ (f ≠ e ∧ ¬ tch f (· ∈ Tc) ∧ (tch f (fun v => v ∈ T ∧ v ≠ n) ∨ f ∈ P)) := fun f h => by
    by_cases hfe : f = e
    · exact .inl hfe
    · by_cases ht : tch f (· ∈ Tc)
      · exact .inr (.inl ⟨hfe, ht⟩)
      · refine .inr (.inr ⟨hfe, ht, ?_⟩)
        rcases h with h | h
        · left
          rcases h with h | h
          · exact .inl ⟨(List.mem_append.1 h.1).resolve_right (fun h2 => ht (.inl h2)), h.2⟩
          · exact .inr ⟨(List.mem_append.1 h.1).resolve_right (fun h2 => ht (.inr h2)), h.2⟩
        · rcases List.mem_append.1 h with h | h
          · exact .inr h
          · exact absurd (List.mem_singleton.1 h) hfe
  have hTcon : ∀ u ∈ T ++ Tc, Conn (inS w (T ++ Tc)) n u := fun u hu => by
    rcases List.mem_append.1 hu with hu | hu
    · exact (I.con u hu).inS_mono fun z hz => List.mem_append_left _ hz
    · have k1 : Conn (inS w (T ++ Tc)) n y := Conn.one ⟨he, ha.mk2 (Q := (· ∈ T ++ Tc)) (List.mem_append_left _ I.hm) (List.mem_append_right _ C.hd)⟩ ha
      exact k1.trans ((C.con u hu).inS_mono fun z hz => List.mem_append_right _ hz)
  have hnd : (S ++ (T ++ Tc)).Nodup := by rw [← List.append_assoc]; exact C.nd
  have hcn : ∀ u ∈ Tc, Conn (exN w n) y u := fun u hu => (C.con u hu).exN_of hnC
  -- without the node, a child's nodes are left only for those found before the node
  have hleave : ∀ z, Conn (exN w n) y z → z ∈ Tc ∨ (par ≠ none ∧ lo1 y < S.length + 1) := fun z k => by
    by_cases hq : par ≠ none ∧ lo1 y < S.length + 1
    · exact .inr hq
    · left
      refine k.ind (Q := fun z => z ∈ Tc) C.hd fun f hf u z hz hu => ?_
      rcases List.mem_append.1 (C.cl u hu f hf.1 z hz) with h | h
      · exfalso
        have hzn := (exN_adj hf hz).2
        rcases ch_open V I C hf.1 hu h hz with rfl | ⟨h3, p, ep, hp, _⟩
        · exact hzn rfl
        · refine hq ⟨by rw [hp]; simp, ?_⟩
          have hfe : f ≠ e := fun e2 => by
            subst e2
            rcases ha with ⟨a1, a2⟩ | ⟨a1, a2⟩
            · exact hf.2.1 a1
            · exact hf.2.2 a1
          have h5 := C.l2 f hf.1 hfe u hu z h hz
          rw [rk_old h3] at h5
          have := rk_rng h3
          omega
      · exact h
  have hyW : Conn (inW w) y n := Conn.one he ha.symm
  refine { hd := ?_, nd := hnd, c1 := ?_, c2 := ?_, con := hTcon, l1 := by have := I.l1; omega, l2 := ?_, l3 := ?_, lk := ?_, b1 := ?_, b2 := ?_, b3 := ?_, j1 := ?_, j2 := ?_, j3 := ?_, j4 := ?_, u0 := fun h => by omega, u1 := ?_, u2 := fun _ => ⟨y, List.mem_append_right _ C.hd, hyn⟩, u3 := ?_, t1 := ?_, t2 := ?_, t3 := ?_, t4 := ?_, t5 := ?_ }
  · obtain ⟨T', hT⟩ := I.hd
    exact ⟨T' ++ Tc, by rw [hT]; rfl⟩
  · intro u hu hne
    rw [← List.append_assoc]
    rcases List.mem_append.1 hu with hu | hu
    · exact (I.c1 u hu hne).mono fun z hz => List.mem_append_left _ hz
    · exact C.cl u hu
  · intro f hf z hz
    rw [← List.append_assoc]
    rcases List.mem_append.1 hf with hf | hf
    · exact List.mem_append_left _ (I.c2 f hf z hz)
    · rw [List.mem_singleton.1 hf] at hz
      rw [← W.snd he ha hz]
      exact List.mem_append_right _ C.hd
  · intro f hf hb u hu x hx hax h
    rcases List.mem_append.1 hu with hu | hu
    · have hold : u ≠ n ∨ f ∈ P := by
        rcases h with h | h
        · exact .inl h
        · rcases List.mem_append.1 h with h | h
          · exact .inr h
          · by_cases hun : u = n
            · exfalso
              rw [List.mem_singleton.1 h, hun] at hax
              exact hyS (by rw [W.snd he ha hax]; exact hx)
            · exact .inl hun
      have := I.l2 f hf hb u hu x hx hax hold
      omega
    · have hfe : f ≠ e := fun e2 => by
        subst e2
        rcases hax with ⟨a1, a2⟩ | ⟨a1, a2⟩ <;> rcases ha with ⟨b1, b2⟩ | ⟨b1, b2⟩
        · exact hnC (by rw [← b1, a1]; exact hu)
        · exact hnS (by rw [← b1, a2]; exact hx)
        · exact hnS (by rw [← b1, a2]; exact hx)
        · exact hnC (by rw [← b1, a1]; exact hu)
      have := C.l2 f hf hfe u hu x (List.mem_append_left _ hx) hax
      rw [rk_old hx] at this
      omega
  · by_cases hlt : lo1 y < lo n
    · rcases C.l3 with h | ⟨f, hf, hfe, u, hu, x, hx, hax, hl⟩
      · have := I.l1
        omega
      · have hl1 := I.l1
        rcases ch_open V I C hf hu hx hax with rfl | ⟨h3, _⟩
        · rw [I.rkn] at hl; omega
        · exact .inr ⟨f, hf, hby f (hax.tch (Q := (· ∈ Tc)) hu) hf, u, List.mem_append_right _ hu, x, h3, hax, by rw [h1, hln, hl, rk_old h3]; rw [hl, rk_old h3] at hlt; omega⟩
    · have : lo2 n = lo n := by rw [h1, hln]; omega
      rw [this]
      rcases I.l3 with h | ⟨f, hf, hfe, u, hu, x, hx, hax, hl⟩
      · exact .inl h
      · exact .inr ⟨f, hf, hfe, u, List.mem_append_left _ hu, x, hx, hax, hl⟩
  · intro x hx
    rw [h2 x (fun e2 => hnS (by rw [← e2]; exact hx)), C.lk x (List.mem_append_left _ hx)]
    exact I.lk x hx
  · intro f hf
    rw [h3] at hf
    rcases List.mem_append.1 hf with hf | hf
    · rcases List.mem_append.1 hf with hf | hf
      · have := I.b1 f hf
        exact ⟨this.1, List.mem_append_left _ this.2.1, List.mem_append_left _ this.2.2⟩
      · have := C.b1 f hf
        exact ⟨this.1, List.mem_append_right _ this.2.1, List.mem_append_right _ this.2.2⟩
    · split at hf
      · rw [List.mem_singleton.1 hf]
        exact ⟨he, ha.mk2 (Q := (· ∈ T ++ Tc)) (List.mem_append_left _ I.hm) (List.mem_append_right _ C.hd)⟩
      · simp at hf
  · rw [h3]
    refine List.nodup_append.2 ⟨List.nodup_append.2 ⟨I.b2, C.b2, fun f hf g hg e2 => ?_⟩, by split <;> simp, fun f hf g hg e2 => ?_⟩
    · subst e2
      exact hTC _ (I.b1 f hf).2.1 (C.b1 f hg).2.1
    · split at hg
      · rw [List.mem_singleton.1 hg] at e2
        subst e2
        exact (List.mem_append.1 hf).elim headd headdc
      · simp at hg
  · intro f hf hb h
    rw [h3]
    simp only [List.mem_append]
    rcases hsplit f h with rfl | ⟨hfe, ht⟩ | ⟨hfe, ht, hold⟩
    · by_cases hq : lo1 y > S.length + 1
      · rw [if_pos hq]
        exact ⟨fun _ => hbrg.1 hq, fun _ => .inr (by simp)⟩
      · rw [if_neg hq]
        exact ⟨fun h => by simp [headd, headdc] at h, fun h => absurd h (hbrg.2 hq).1⟩
    · rw [← C.b3 f hf hfe ht]
      refine ⟨fun h => ?_, fun h => .inl (.inr h)⟩
      rcases h with (h | h) | h
      · exact absurd (I.b1 f h).2 (hnotT f ht)
      · exact h
      · split at h
        · exact absurd (List.mem_singleton.1 h) hfe
        · simp at h
    · rw [← I.b3 f hf hb hold]
      refine ⟨fun h => ?_, fun h => .inl (.inl h)⟩
      rcases h with (h | h) | h
      · exact h
      · exact absurd (C.b1 f h).2 (hnotC f ht)
      · split at h
        · exact absurd (List.mem_singleton.1 h) hfe
        · simp at h
  · intro v hv
    rw [h4, C.jn, I.j1 v hv]
    simp only [List.mem_append]
    constructor
    · rintro (((h | h) | h) | h)
      · exact .inl h
      · exact .inr ⟨.inl h.1, h.2⟩
      · exact .inr ⟨.inr h.1, h.2⟩
      · exact absurd h.1 hv
    · rintro (h | ⟨h | h, h5⟩)
      · exact .inl (.inl (.inl h))
      · exact .inl (.inl (.inr ⟨h, h5⟩))
      · exact .inl (.inr ⟨h, h5⟩)
  · intro hp hj
    rw [h4, C.jn] at hj
    rcases hj with (h | h) | ⟨_, _, hge⟩
    · exact I.j2 hp h
    · exact absurd h.1 hnC
    · cases hpp : par with
      | none => exact absurd hpp hp
      | some q =>
        obtain ⟨p, ep⟩ := q
        obtain ⟨g1, g2, g3, g4⟩ := hpe p ep hpp
        refine ⟨y, p, hyn, g2, hyW, hyW.adj g3 g4.symm, fun k => ?_⟩
        rcases hleave p k with h | h
        · exact hSC p g1 h
        · omega
  · intro p ep hp hj u hu hun
    rw [h4, C.jn] at hj
    have hj1 : ¬ j n := fun h => hj (.inl (.inl h))
    have hlt : lo1 y < S.length + 1 := by
      by_cases h : lo1 y < S.length + 1
      · exact h
      · exact absurd (.inr ⟨rfl, by rw [hp]; simp, by omega⟩) hj
    rcases List.mem_append.1 hu with hu | hu
    · exact I.j3 p ep hp hj1 u hu hun
    · rcases C.l3 with h | ⟨f, hf, hfe, u2, hu2, x, hx, hax, hl⟩
      · omega
      · rcases ch_open V I C hf hu2 hx hax with rfl | ⟨h3, p2, ep2, hp2, hc⟩
        · rw [I.rkn] at hl; omega
        · have : p2 = p := by rw [hp] at hp2; simp at hp2; exact hp2.1.symm
          subst this
          have hxn : x ≠ n := fun e2 => hnS (by rw [← e2]; exact h3)
          have hu2n : u2 ≠ n := fun e2 => hnC (by rw [← e2]; exact hu2)
          exact ((hcn u hu).symm.trans ((hcn u2 hu2).adj (adj_exN hf hax hu2n hxn) hax)).trans (hc.exN_of hnS)
  · intro hp hj
    rw [h4, C.jn] at hj
    rcases hj with (h | h) | ⟨_, h, _⟩
    · exact I.j4 hp h
    · exact hnC h.1
    · exact h hp
  · intro hle hp u hu v hv hun hvn
    have hz := I.u0 (by omega)
    have hin : ∀ u ∈ T ++ Tc, u ≠ n → u ∈ Tc := fun u hu hne => (List.mem_append.1 hu).resolve_left fun h => hne (hz u h)
    exact (hcn u (hin u hu hun)).symm.trans (hcn v (hin v hv hvn))
  · intro hle hp
    obtain ⟨u, hu, hun⟩ := I.u2 (by omega)
    refine ⟨y, u, hyn, hun, hyW, hyW.trans (I.con u hu).inW_of, fun k => ?_⟩
    rcases hleave u k with h | h
    · exact hTC u hu h
    · exact h.1 hp
  · intro f hf
    rcases List.mem_append.1 hf with hf | hf
    · have := I.t1 f hf
      exact ⟨this.1, List.mem_append_left _ this.2.1, List.mem_append_left _ this.2.2⟩
    · rcases List.mem_cons.1 hf with rfl | hf
      · exact ⟨he, ha.mk2 (Q := (· ∈ T ++ Tc)) (List.mem_append_left _ I.hm) (List.mem_append_right _ C.hd)⟩
      · have := C.t1 f hf
        exact ⟨this.1, List.mem_append_right _ this.2.1, List.mem_append_right _ this.2.2⟩
  · refine List.nodup_append.2 ⟨I.t2, List.nodup_cons.2 ⟨hetrc, C.t2⟩, fun f hf g hg e2 => ?_⟩
    subst e2
    rcases List.mem_cons.1 hg with rfl | hg
    · exact hetr hf
    · exact hTC _ (I.t1 f hf).2.1 (C.t1 f hg).2.1
  · have := I.t3
    have := C.t3
    simp only [List.length_append, List.length_cons]
    omega
  · intro f hf hb h hnt
    rw [List.mem_append, List.mem_cons, not_or, not_or] at hnt
    rcases hsplit f h with rfl | ⟨hfe, ht⟩ | ⟨hfe, ht, hold⟩
    · exact absurd rfl hnt.2.1
    · exact C.t4 f hf hfe ht hnt.2.2
    · exact I.t4 f hf hb hold hnt.1
  · intro f hf hnb
    have hsub : ∀ z ∈ (S ++ T) ++ Tc, z ∈ S ++ (T ++ Tc) := fun z hz => by rw [← List.append_assoc]; exact hz
    rcases List.mem_append.1 hf with hf | hf
    · obtain ⟨g, hg, hgb, hgt, hgs, hgn⟩ := I.t5 f hf hnb
      refine ⟨g, hg, hgb, hgt.imp (List.mem_append_left _) (List.mem_append_left _), ⟨hsub _ (List.mem_append_left _ hgs.1), hsub _ (List.mem_append_left _ hgs.2)⟩, fun hm => ?_⟩
      rcases List.mem_append.1 hm with hm | hm
      · exact hgn hm
      · rcases List.mem_cons.1 hm with rfl | hm
        · exact hy (ha.both (Q := (· ∈ S ++ T)) hgs).2
        · exact mem_no C.nd hgs.1 (C.t1 g hm).2.1
    · have htc : ∀ g, tch g (· ∈ Tc) → g ≠ e → g ∉ trc → g ∉ tr ++ e :: trc := fun g hg hge hgn hm => by
        rcases List.mem_append.1 hm with hm | hm
        · exact hnotT g hg (I.t1 g hm).2
        · rcases List.mem_cons.1 hm with h | hm
          · exact hge h
          · exact hgn hm
      rcases List.mem_cons.1 hf with rfl | hf
      · have hq : ¬ lo1 y > S.length + 1 := fun h => hnb (hbrg.1 h)
        obtain ⟨g, hg, hge, u, hu, x, hx, hax⟩ := (hbrg.2 hq).2
        have hgt := hax.tch (Q := (· ∈ Tc)) hu
        refine ⟨g, hg, hby g hgt hg, hgt.imp (List.mem_append_right _) (List.mem_append_right _), hax.mk2 (Q := (· ∈ S ++ (T ++ Tc))) (hsub _ (List.mem_append_right _ hu)) (hsub _ (List.mem_append_left _ hx)), htc g hgt hge fun hm => ?_⟩
        exact mem_no C.nd hx (hax.both (Q := (· ∈ Tc)) (C.t1 g hm).2).2
      · obtain ⟨g, hg, hgb, hgt, hgs, hgn⟩ := C.t5 f hf hnb
        exact ⟨g, hg, hby g hgt hg, hgt.imp (List.mem_append_right _) (List.mem_append_right _), ⟨hsub _ hgs.1, hsub _ hgs.2⟩, htc g hgt hgb hgn⟩
theorem VI.fin (W : WOk w) (V : VPre w S n par) (I : VI w S n par lo0 j0 P T lo add tr j un) (hj0 : ¬ j0 n) (hP : ∀ e ∈ w, ∀ z, Adj e n z → e ∈ P) {j2 : Int → Prop} (h4 : ∀ v, j2 v ↔ j v ∨ (v = n ∧ par = none ∧ 2 ≤ un)) : VPost w S n par lo0 j0 T lo add tr j2 := by
  have hnS := I.nS
  have hcl : ∀ u ∈ T, ClS w (S ++ T) u := fun u hu => by
    by_cases h : u = n
    · subst h
      exact fun e he z hz => I.c2 e (hP e he z hz) z hz
    · exact I.c1 u hu h
  have htc : ∀ e ∈ w, tch e (· ∈ T) → (tch e (fun v => v ∈ T ∧ v ≠ n) ∨ e ∈ P) := fun e he ht => by
    obtain ⟨u, z, hz, hu⟩ := tch_adj ht
    by_cases h : u = n
    · subst h; exact .inr (hP e he z hz)
    · exact .inl (hz.tch (Q := fun v => v ∈ T ∧ v ≠ n) ⟨hu, h⟩)
  refine { hd := I.hm, nd := I.nd, cl := hcl, con := I.con, l1 := I.l1, l2 := ?_, l3 := I.l3, lk := I.lk, b1 := I.b1, b2 := I.b2, b3 := fun e he hb ht => I.b3 e he hb (htc e he ht), jn := ?_, t1 := I.t1, t2 := I.t2, t3 := I.t3, t4 := fun e he hb ht => I.t4 e he hb (htc e he ht), t5 := I.t5 }
  · intro e he hb u hu x hx ha
    refine I.l2 e he hb u hu x hx ha ?_
    by_cases h : u = n
    · subst h; exact .inr (hP e he x ha)
    · exact .inl h
  · intro v
    by_cases hv : v = n
    · subst hv
      rw [h4]
      have : j0 v ∨ (v ∈ T ∧ Jnt w v) ↔ Jnt w v := ⟨fun h => h.elim (fun h => absurd h hj0) (·.2), fun h => .inr ⟨I.hm, h⟩⟩
      rw [this]
      cases hp : par with
      | none =>
        constructor
        · rintro (h | ⟨_, _, h⟩)
          · exact absurd h (I.j4 hp)
          · exact I.u3 h hp
        · intro hJ
          refine .inr ⟨rfl, rfl, ?_⟩
          refine Classical.byContradiction fun hlt => ?_
          obtain ⟨a, b, ha, hb, k1, k2, k3⟩ := hJ
          have hall : ∀ z, Conn (inW w) v z → z ∈ T := fun z k => k.ind (Q := fun z => z ∈ T) I.hm fun e he x z hz hx => by
            rcases List.mem_append.1 (hcl x hx e he z hz) with h | h
            · exfalso
              rcases V.opn z h with h2 | ⟨p, ep, h2, _⟩
              · exact mem_no I.nd (h2 e he x hz.symm) hx
              · rw [hp] at h2; cases h2
            · exact h
          exact k3 (I.u1 (by omega) hp a (hall a k1.symm) b (hall b (k1.symm.trans k2)) ha hb)
      | some q =>
        obtain ⟨p, ep⟩ := q
        constructor
        · rintro (h | ⟨_, h, _⟩)
          · exact I.j2 (by rw [hp]; simp) h
          · cases h
        · intro hJ
          refine .inl (Classical.byContradiction fun hnj => ?_)
          obtain ⟨a, b, ha, hb, k1, k2, k3⟩ := hJ
          have hj3 := I.j3 p ep hp hnj
          have hall : ∀ z, Conn (inW w) v z → z ∈ T ∨ Conn (exN w v) z p := fun z k => k.ind (Q := fun z => z ∈ T ∨ Conn (exN w v) z p) (.inl I.hm) fun e he x z hz hx => by
            by_cases hzT : z ∈ T
            · exact .inl hzT
            · right
              have hzn : z ≠ v := fun e2 => hzT (by rw [e2]; exact I.hm)
              rcases hx with hx | hx
              · have hzS := (List.mem_append.1 (hcl x hx e he z hz)).resolve_right hzT
                rcases V.opn z hzS with h2 | ⟨p2, ep2, h2, _, h5⟩
                · exact absurd hx (mem_no I.nd (h2 e he x hz.symm))
                · have : p2 = p := by rw [hp] at h2; simp at h2; exact h2.1.symm
                  subst this
                  exact h5.exN_of hnS
              · by_cases hxn : x = v
                · subst hxn
                  have hzS := (List.mem_append.1 (hcl x I.hm e he z hz)).resolve_right hzT
                  rcases V.opn z hzS with h2 | ⟨p2, ep2, h2, _, h5⟩
                  · exact absurd I.hm (mem_no I.nd (h2 e he x hz.symm))
                  · have : p2 = p := by rw [hp] at h2; simp at h2; exact h2.1.symm
                    subst this
                    exact h5.exN_of hnS
                · exact (Conn.one (adj_exN he hz.symm hzn hxn) hz.symm).trans hx
          have hto : ∀ z, z ≠ v → Conn (inW w) v z → Conn (exN w v) z p := fun z hz k => (hall z k).elim (fun h => hj3 z h hz) id
          exact k3 ((hto a ha k1.symm).trans (hto b hb (k1.symm.trans k2)).symm)
    · rw [h4, I.j1 v hv]
      exact ⟨fun h => h.elim id fun h => absurd h.1 hv, .inl⟩
end
end A
end Go.Proofs.Ytnabkchagjjjnaa
