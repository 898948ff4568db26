/- Texts that MatrixOf's proof rests on, part 12. -/
import Derived.KernelRfl
import Derived.Test.YtmcannmjielalaaProg
import Derived.Test.YtmcannmjielalaaS10MatrixOf
set_option linter.unusedVariables false
set_option linter.unusedSimpArgs false
namespace Go.Proofs.Ytmcannmjielalaa
namespace A
theorem es_22 : elemSize Try.prog 22 = some 3 := by kernel_rfl
theorem es_25 : elemSize Try.prog 25 = some 1 := by kernel_rfl
theorem fd_36_0 : fieldOf Try.prog 36 0 = some (0, 1, false) := by kernel_rfl
theorem fd_36_1 : fieldOf Try.prog 36 1 = some (1, 1, false) := by kernel_rfl
theorem fd_36_2 : fieldOf Try.prog 36 2 = some (2, 1, false) := by kernel_rfl
theorem sl_22 : isSl Try.prog 22 = true := by kernel_rfl
theorem sl_25 : isSl Try.prog 25 = true := by kernel_rfl
theorem ty_3 : tyOf Try.prog 3 = some (1, false) := by kernel_rfl
theorem ty_36 : tyOf Try.prog 36 = some (3, true) := by kernel_rfl
theorem us_25 : Try.prog.underlying 25 = some (.slice 3) := by kernel_rfl
theorem ze_3 : zeroOf Try.prog 3 = some (.int .i64 0) := by kernel_rfl
theorem ze_36 : zeroOf Try.prog 36 = some (.agg #[.int .i64 0, .int .i64 0, .int .i64 0]) := by kernel_rfl
def cmpI (a b : Int) : Int := if a < b then -1 else if b < a then 1 else 0
def orI : List Int → Int
  | [] => 0
  | a :: l => if a ≠ 0 then a else orI l
theorem orI_drop {xs : List Int} {i : Nat} {a : Int} (h : xs[i]? = some a) : orI (xs.drop i) = if a ≠ 0 then a else orI (xs.drop (i + 1)) := by
  rw [drop_step h]
  rfl
/- cmp.isNaN[int] -/
set_option maxRecDepth 100000 in
set_option maxHeartbeats 400000 in
theorem cmp_isNaN {n : Int} : Triple Try.prog 246 [.int n] [] (Is (.v (.bool false)) []) := by
  refine triple_of Try.func246 rfl (by kernel_rfl) rfl (by simp) ?_
  refine aSeq ?_
  refine aReg ?_
  refine sp pMa ?_
  refine oNil ?_
  refine aSeq ?_
  refine aReg ?_
  refine sp pM ?_
  refine sp pM ?_
  refine sp pB ?_
  refine sp pMa ?_
  refine oNil ?_
  refine aRet ?_
  refine finIs rfl ?_
  simp [retOf]
/- cmp.Compare[int] -/
set_option maxRecDepth 100000 in
set_option maxHeartbeats 400000 in
theorem cmp_Compare {a b : Int} : Triple Try.prog 174 [.int a, .int b] [] (Is (.v (.int .i64 (cmpI a b))) []) := by
  refine triple_of Try.func174 rfl (by kernel_rfl) rfl (by simp) ?_
  refine aSeq ?_
  refine aReg ?_
  refine sp pMa ?_
  refine oNil ?_
  refine aSeq ?_
  refine aReg ?_
  refine sp pM ?_
  refine sq ?_
  refine cv rfl rfl rfl (lents_refl _) cmp_isNaN ?_
  refine sp pMa ?_
  refine oNil ?_
  refine aSeq ?_
  refine aReg ?_
  refine sp pM ?_
  refine sq ?_
  refine cv rfl rfl rfl (lents_refl _) cmp_isNaN ?_
  refine sp pMa ?_
  refine oNil ?_
  refine aSeq ?_
  refine aSeq ?_
  refine aReg ?_
  refine sp pM ?_
  refine oNil ?_
  refine aCond rfl (fun c11 => ?_) (fun c11 => ?_)
  · skip
    refine aSeq ?_
    refine aSeq ?_
    refine aReg ?_
    refine sp pM ?_
    refine oNil ?_
    refine aCond rfl (fun c12 => ?_) (fun c12 => ?_)
    · skip
      refine aSeq ?_
      refine aReg ?_
      refine sp pMa ?_
      refine oNil ?_
      refine aRet ?_
      refine finIs rfl ?_
      simp_all [retOf, cmpI] <;> omega
    · skip
      refine aSkip ?_
      refine aSeq ?_
      refine aReg ?_
      refine sp pMa ?_
      refine oNil ?_
      refine aRet ?_
      refine finIs rfl ?_
      simp_all [retOf, cmpI] <;> omega
  · skip
    refine aSkip ?_
    refine aSeq ?_
    refine aSeq ?_
    refine aReg ?_
    refine sp pM ?_
    refine oNil ?_
    refine aCond rfl (fun c13 => ?_) (fun c13 => ?_)
    · skip
      refine aSeq ?_
      refine aReg ?_
      refine sp pMa ?_
      refine oNil ?_
      refine aRet ?_
      refine finIs rfl ?_
      simp_all [retOf, cmpI] <;> omega
    · skip
      refine aSkip ?_
      refine aSeq ?_
      refine aSeq ?_
      refine aReg ?_
      refine sp pM ?_
      refine sp pM ?_
      refine sp pB ?_
      refine oNil ?_
      refine aCondDec rfl (fun c16 => ?_) (fun c16 => ?_)
      · skip
        refine aSeq ?_
        refine aReg ?_
        refine sp pMa ?_
        refine oNil ?_
        refine aRet ?_
        refine finIs rfl ?_
        simp_all [retOf, cmpI] <;> omega
      · skip
        refine aSkip ?_
        refine aSeq ?_
        refine aSeq ?_
        refine aReg ?_
        refine sp pM ?_
        refine sp pM ?_
        refine sp pB ?_
        refine oNil ?_
        refine aCondDec rfl (fun c19 => ?_) (fun c19 => ?_)
        · skip
          refine aSeq ?_
          refine aReg ?_
          refine sp pMa ?_
          refine oNil ?_
          refine aRet ?_
          refine finIs rfl ?_
          simp_all [retOf, cmpI] <;> omega
        · skip
          refine aSkip ?_
          refine aSeq ?_
          refine aReg ?_
          refine sp pMa ?_
          refine oNil ?_
          refine aRet ?_
          refine finIs rfl ?_
          simp_all [retOf, cmpI] <;> omega
/- cmp.Or[int] -/
set_option maxRecDepth 100000 in
set_option maxHeartbeats 400000 in
theorem cmp_Or (xs : List Int) (hx : xs.length ≤ 1000 := by simp) : Triple Try.prog 173 [.sl 1 (xs.map intA)] [] (Is (.v (.int .i64 (orI xs))) []) := by
  refine triple_of Try.func173 rfl (by kernel_rfl) rfl (by simp) ?_
  refine aSeq ?_
  refine aReg ?_
  refine sp pMa ?_
  refine oNil ?_
  refine aSeq ?_
  refine aReg ?_
  refine sp pMa ?_
  refine oNil ?_
  refine aSeq ?_
  refine aSeq ?_
  refine aReg ?_
  refine sp pM ?_
  refine sp (by first | exact pLm sl_25 | exact pLs sl_25) ?_
  refine sp pM ?_
  refine oNil ?_
  refine aBlock ?_
  refine loopF (α := Nat) (kept := [(3, _), (6, _), (7, _)]) (fun i => i ≤ xs.length ∧ orI (xs.drop i) = orI xs) (fun i => [(8, .int i)]) (fun i => []) (fun i => xs.length - i) 0 ?_ ⟨gInt rfl (by first | rfl | omega | simp), rfl, rfl, rfl, trivial⟩ (by repeat constructor) ?_
  · skip
    exact ⟨by omega, rfl⟩
  · rintro i ⟨hi, ho⟩
    refine aSeq ?_
    refine aReg ?_
    refine sp pB ?_
    refine oNil ?_
    refine aSeq ?_
    refine aCondDec rfl (fun c9 => ?_) (fun c9 => ?_)
    · skip
      refine aSkip ?_
      refine aSeq ?_
      refine aBlock ?_
      refine aSeq ?_
      refine aReg ?_
      first | refine sp (pIx es_25) ?_ | (refine obtSN 6 8 rfl rfl (by omega) (fun x10 hx10 => ?_); refine sp (pIs es_25 hx10) ?_) | (refine obtS 6 8 rfl rfl (by omega) (by omega) (fun x10 hx10 => ?_); refine sp (pIs es_25 hx10) ?_) | refine sp (pIo es_25) ?_
      refine sr (rS1 ty_3) ?_
      refine sp pMa ?_
      refine oNil ?_
      refine aSeq ?_
      refine aReg ?_
      refine sp pM ?_
      refine sp pM ?_
      refine sp pB ?_
      refine oNil ?_
      refine aCondNe rfl (fun c14 => ?_) (fun c14 => ?_)
      · skip
        refine aSeq ?_
        refine aReg ?_
        refine sp pM ?_
        refine sp pMa ?_
        refine oNil ?_
        refine aRet ?_
        refine finIs rfl ?_
        show AV.int _ = AV.int _
        congr 2
        first | (rw [← ho, orI_drop hx10, if_pos (by assumption)]; done) | (rw [← ho, List.drop_of_length_le (by omega)]; rfl)
      · skip
        refine aSkip ?_
        refine aReg ?_
        refine sp pAd ?_
        refine sp pM ?_
        refine oNil ?_
        refine ⟨i + 1, ?_, by (try dsimp only); omega, ⟨gInt rfl (by first | rfl | omega | simp), rfl, rfl, rfl, trivial⟩, _, (by repeat constructor)⟩
        exact ⟨by omega, by rw [← ho, orI_drop hx10]; simp_all⟩
    · skip
      refine aExit rfl ?_
      refine aSeq ?_
      refine aReg ?_
      refine sp pM ?_
      refine sp pMa ?_
      refine oNil ?_
      refine aRet ?_
      refine finIs rfl ?_
      show AV.int _ = AV.int _
      congr 2
      first | (rw [← ho, orI_drop hx10, if_pos (by assumption)]; done) | (rw [← ho, List.drop_of_length_le (by omega)]; rfl)
structure Arc where
  f : Int
  t : Int
  c : Int
  deriving DecidableEq, Inhabited
def arcC (a : Arc) : List AV := [.int a.f, .int a.t, .int a.c]
def nodeB (n : Int) : Bool := decide (1 ≤ n) && decide (n ≤ 64)
def arcB (a : Arc) : Bool := nodeB a.f && nodeB a.t && !(a.f == a.t) && decide (1 ≤ a.c) && decide (a.c ≤ 1073741824)
def ltA (x y : Arc) : Prop := x.f < y.f ∨ x.f = y.f ∧ x.t < y.t
instance (x y : Arc) : Decidable (ltA x y) := by unfold ltA; infer_instance
/-- Arcs from a place on, behind the one ahead of it. -/
def arcsB : Option Arc → List Arc → Bool
  | _, [] => true
  | p, a :: l => arcB a && (match p with | none => true | some q => decide (ltA q a)) && arcsB (some a) l
def orderA (a b : Arc) : Int := orI [cmpI a.f b.f, cmpI a.t b.t]
theorem cmpI_ne {a b : Int} : cmpI a b ≠ 0 ↔ a ≠ b := by unfold cmpI; split <;> (try split) <;> omega
theorem cmpI_lt {a b : Int} : cmpI a b < 0 ↔ a < b := by unfold cmpI; split <;> (try split) <;> omega
theorem orderA_lt {a b : Arc} : orderA a b < 0 ↔ ltA a b := by
  simp only [orderA, orI, ltA]
  have h1 := cmpI_ne (a := a.f) (b := b.f)
  have h2 := cmpI_lt (a := a.f) (b := b.f)
  have h3 := cmpI_ne (a := a.t) (b := b.t)
  have h4 := cmpI_lt (a := a.t) (b := b.t)
  split
  · omega
  · split <;> omega
def ordA (p : Option Arc) (e : Arc) : Bool := match p with | none => true | some q => decide (orderA q e < 0)
theorem arcs_step {l : List Arc} {i : Nat} {e : Arc} {p : Option Arc} (h : l[i]? = some e) : arcsB p (l.drop i) = (arcB e && ordA p e && arcsB (some e) (l.drop (i + 1))) := by
  rw [drop_step h]
  cases p with
  | none => rfl
  | some q => simp only [arcsB, ordA, orderA_lt]
theorem arcsB_all : ∀ {l : List Arc} {p : Option Arc}, arcsB p l = true → ∀ e ∈ l, arcB e = true
  | [], _, _, e, he => by simp at he
  | x :: l, p, h, e, he => by
    simp only [arcsB, Bool.and_eq_true] at h
    rcases List.mem_cons.1 he with rfl | he
    · exact h.1.1
    · exact arcsB_all h.2 e he
def AOk (a : Arc) : Prop := 1 ≤ a.f ∧ a.f ≤ 64 ∧ 1 ≤ a.t ∧ a.t ≤ 64 ∧ a.f ≠ a.t ∧ 1 ≤ a.c ∧ a.c ≤ 1073741824
theorem AOk.of {a : Arc} (h : arcB a = true) : AOk a := by
  simp only [arcB, nodeB, Bool.and_eq_true, decide_eq_true_eq, Bool.not_eq_true', beq_eq_false_iff_ne] at h
  unfold AOk
  omega
theorem arcs_ok {l : List Arc} (h : arcsB none l = true) : ∀ a ∈ l, AOk a := fun a ha => AOk.of (arcsB_all h a ha)
/- graph.node -/
set_option maxRecDepth 100000 in
set_option maxHeartbeats 400000 in
theorem graph_node {n : Int} : Triple Try.prog 120 [.int n] [] (Is (.v (.bool (nodeB n))) []) := by
  refine triple_of Try.func120 rfl (by kernel_rfl) rfl (by simp) ?_
  refine aSeq ?_
  refine aReg ?_
  refine sp pMa ?_
  refine oNil ?_
  refine aSeq ?_
  refine aReg ?_
  refine sp pM ?_
  refine sp pB ?_
  refine sp pM ?_
  refine oSplitDec 5 rfl (fun c5 => ?_) (fun c5 => ?_)
  · skip
    refine gp pM ?_
    refine gp pB ?_
    refine sp pK ?_
    refine sp pMa ?_
    refine oNil ?_
    refine aRet ?_
    refine finIs rfl ?_
    simp [retOf, nodeB]
    omega
  · skip
    refine gf ?_
    refine gf ?_
    refine sp pK ?_
    refine sp pMa ?_
    refine oNil ?_
    refine aRet ?_
    refine finIs rfl ?_
    simp [retOf, nodeB]
    omega
/- graph.order -/
def graph_order_r1_T : Bool × List (List Nat × List Nat) := (true, [([], []), ([0], [0]), ([], []), ([2], [2]), ([1, 3], [1, 3]), ([], []), ([5], [5]), ([], []), ([7], [7]), ([6, 8, 4], [6, 8]), ([4, 9], [4, 9]), ([10, 9], [10]), ([11, 11, 0, 1, 2, 3, 4, 5, 6, 7, 8, 9, 10, 11], [11])])
def graph_order_r1_B : List Nat := [0, 1, 0, 4, 15, 0, 32, 0, 128, 511, 1023, 2047, 4095]
theorem graph_order_r1_t : Go.Proofs.YtmcannmjielalaaW.PrintLast.rtab .any (Go.Proofs.YtmcannmjielalaaW.PrintLast.opsOf Try.f121 1) = graph_order_r1_T := by kernel_rfl
theorem graph_order_r1_b : Go.Proofs.YtmcannmjielalaaW.PrintLast.waitsOk graph_order_r1_T.2 graph_order_r1_B = true := by kernel_rfl
set_option maxRecDepth 100000 in
set_option maxHeartbeats 400000 in
theorem graph_order {a b : Arc} : Triple Try.prog 121 [.agg (arcC a), .agg (arcC b)] [] (Is (.v (.int .i64 (orderA a b))) []) := by
  refine triple_of Try.func121 rfl (by kernel_rfl) rfl (by simp) ?_
  refine aSeq ?_
  refine aReg ?_
  refine sq ?_
  refine qBox rfl rfl (by decide) rfl rfl (fun b2 => ?_)
  refine sq ?_
  refine qBox rfl rfl (by decide) rfl rfl (fun b3 => ?_)
  refine sp pMa ?_
  refine oNil ?_
  refine aSeq ?_
  refine aDrawT graph_order_r1_t graph_order_r1_b [] 13 #[false, false, false, false, false, false, false, false, false, false, false, false, false] (by kernel_rfl) rfl rfl (fun HT => ?_)
  refine dp HT 0 rfl (pFb fd_36_0) ?_
  refine dr HT 1 rfl (rB1 ty_3) ?_
  refine dp HT 2 rfl (pFb fd_36_0) ?_
  refine dr HT 3 rfl (rB1 ty_3) ?_
  refine dp HT 5 rfl (pFb fd_36_1) ?_
  refine dr HT 6 rfl (rB1 ty_3) ?_
  refine dp HT 7 rfl (pFb fd_36_1) ?_
  refine dr HT 8 rfl (rB1 ty_3) ?_
  refine dGo ?_
  refine e1 HT 4 rfl ?_
  refine cv rfl rfl rfl (lents_refl _) cmp_Compare ?_
  refine e1 HT 9 rfl ?_
  refine cv rfl rfl rfl (lents_refl _) cmp_Compare ?_
  refine e1 HT 10 rfl ?_
  refine qLit (l := [_, _]) rfl rfl (by decide) us_25 ty_3 ze_3 rfl (by decide) (by decide) rfl rfl rfl (fun b15 => ?_)
  refine e1 HT 11 rfl ?_
  refine cv rfl rfl rfl (by repeat (first | exact .nil | refine .cons (.sl (by repeat (first | exact List.mem_cons_self | apply List.mem_cons_of_mem)) (by first | rfl | simp)) ?_ | refine .cons (.same _) ?_)) (cmp_Or [cmpI a.f b.f, cmpI a.t b.t]) ?_
  refine ePure (i := 12) #[true, true, true, true, true, true, true, true, true, true, true, true, true] rfl rfl rfl (HT.any (by kernel_rfl)) (by exact pMa) (by decide) ?_
  refine eE HT ?_
  clear HT
  refine aRet ?_
  refine finIs rfl ?_
  rfl
/- graph.Check -/
def graph_Check_r4_T : Bool × List (List Nat × List Nat) := (true, [([], []), ([0], [0]), ([1], [1]), ([2], [2]), ([3, 2], [3]), ([4], [4]), ([5, 4], [4, 5]), ([6, 4, 4], [4, 6]), ([7, 4], [4, 7]), ([4, 8], [4, 8]), ([9, 7], [9]), ([10], [10]), ([11, 10], [10, 11]), ([10], [10]), ([13, 10], [10, 13]), ([12, 14, 10], [10, 12, 14]), ([10, 15], [10, 15]), ([16, 10], [16]), ([17], [17]), ([18, 17], [17, 18]), ([19, 17], [17, 19]), ([17, 20], [17, 20]), ([21, 17], [21]), ([22], [22]), ([23, 22], [22, 23]), ([24, 22], [22, 24]), ([22, 25], [22, 25]), ([26, 22], [26]), ([27], [27]), ([28, 27], [27, 28]), ([29, 27, 27], [27, 29]), ([30], [30]), ([30], [30]), ([32, 30], [30, 32]), ([31, 33, 30], [30, 31, 33]), ([34, 30], [30, 34]), ([30], [30]), ([35, 36, 30, 30], [30, 35, 36]), ([37, 30], [30, 37]), ([30, 38, 27], [27, 30, 38]), ([27, 39], [27, 39])])
def graph_Check_r4_B : List Nat := [0, 1, 3, 7, 15, 31, 63, 127, 255, 511, 1023, 2047, 4095, 2047, 10239, 32767, 65535, 131071, 262143, 524287, 1048575, 2097151, 4194303, 8388607, 16777215, 33554431, 67108863, 134217727, 268435455, 536870911, 1073741823, 2147483647, 2147483647, 6442450943, 17179869183, 34359738367, 2147483647, 137438953471, 274877906943, 549755813887, 1099511627775]
theorem graph_Check_r4_t : Go.Proofs.YtmcannmjielalaaW.PrintLast.rtab .any (Go.Proofs.YtmcannmjielalaaW.PrintLast.opsOf Try.f30 4) = graph_Check_r4_T := by kernel_rfl
theorem graph_Check_r4_b : Go.Proofs.YtmcannmjielalaaW.PrintLast.waitsOk graph_Check_r4_T.2 graph_Check_r4_B = true := by kernel_rfl
set_option maxRecDepth 100000 in
set_option maxHeartbeats 2000000 in
theorem graph_Check {l : List Arc} (hl : l.length ≤ 1000000 := by omega) : Triple Try.prog 30 [.sl 3 (l.map arcC)] [] (Is (.v (.int .i64 (if arcsB none l then 0 else 1))) []) := by
  refine triple_of Try.func30 rfl (by kernel_rfl) rfl (by simp) ?_
  refine aSeq ?_
  refine aReg ?_
  refine sp pMa ?_
  refine oNil ?_
  refine aSeq ?_
  refine aSeq ?_
  refine aReg ?_
  refine sp pM ?_
  refine sp (by first | exact pLm sl_22 | exact pLs sl_22) ?_
  refine sp pM ?_
  refine oNil ?_
  refine aBlock ?_
  refine loopF (α := Nat) (kept := [(0, _), (5, _), (6, _)]) (fun i => i ≤ l.length ∧ arcsB none l = arcsB (prevA l i) (l.drop i)) (fun i => [(7, .int i)]) (fun i => []) (fun i => l.length - i) 0 ?_ ⟨gInt rfl (by first | rfl | omega | simp), rfl, rfl, rfl, trivial⟩ (by repeat constructor) ?_
  · skip
    exact ⟨by omega, rfl⟩
  · rintro i ⟨hi, hv⟩
    refine aSeq ?_
    refine aReg ?_
    refine sp pB ?_
    refine oNil ?_
    refine aSeq ?_
    refine aCondDec rfl (fun c8 => ?_) (fun c8 => ?_)
    · skip
      refine aSkip ?_
      refine aSeq ?_
      refine aBlock ?_
      refine aSeq ?_
      refine aReg ?_
      refine sp pM ?_
      first | refine sp (pIx es_22) ?_ | (refine obtSN 5 7 rfl rfl (by omega) (fun x10 hx10 => ?_); refine sp (pIs es_22 hx10) ?_) | (refine obtS 5 7 rfl rfl (by omega) (by omega) (fun x10 hx10 => ?_); refine sp (pIs es_22 hx10) ?_) | refine sp (pIo es_22) ?_
      refine sr (by first | exact rSW ty_36 rfl | exact rSA ty_36) ?_
      refine sq ?_
      refine qAlloc rfl rfl (by decide) ze_36 rfl (fun b4 => ?_)
      refine sp pMa ?_
      refine sa ?_
      refine oStW rfl rfl rfl rfl (by repeat constructor) ty_36 ?_
      refine oNil ?_
      refine aSeq ?_
      have hprev : 0 < i → ∃ b, l[((i : Int) - 1).toNat]? = some b := fun h => ⟨_, List.getElem?_eq_getElem (by omega)⟩
      refine aDrawT graph_Check_r4_t graph_Check_r4_b [] 41 #[false, false, false, false, false, false, false, false, false, false, false, false, false, false, false, false, false, false, false, false, false, false, false, false, false, false, false, false, false, false, false, false, false, false, false, false, false, false, false, false, false] (by kernel_rfl) rfl rfl (fun HT => ?_)
      refine dp HT 0 rfl (pFb fd_36_0) ?_
      refine dr HT 1 rfl (rB1 ty_3) ?_
      refine dGo ?_
      refine e1 HT 2 rfl ?_
      refine cv rfl rfl rfl (lents_refl _) graph_node ?_
      refine ef HT 3 rfl pNo ?_
      refine ef HT 4 rfl pM ?_
      refine eSplitNot 16 rfl (fun c16 => ?_) (fun c16 => ?_)
      · skip
        refine eS HT 5 rfl ?_
        refine eS HT 6 rfl ?_
        refine eS HT 7 rfl ?_
        refine eS HT 8 rfl ?_
        refine ef HT 9 rfl pK ?_
        refine ef HT 10 rfl pM ?_
        refine eS HT 11 rfl ?_
        refine eS HT 12 rfl ?_
        refine eS HT 13 rfl ?_
        refine eS HT 14 rfl ?_
        refine eS HT 15 rfl ?_
        refine ef HT 16 rfl pK ?_
        refine ef HT 17 rfl pM ?_
        refine eS HT 18 rfl ?_
        refine eS HT 19 rfl ?_
        refine eS HT 20 rfl ?_
        refine ef HT 21 rfl pK ?_
        refine ef HT 22 rfl pM ?_
        refine eS HT 23 rfl ?_
        refine eS HT 24 rfl ?_
        refine eS HT 25 rfl ?_
        refine ef HT 26 rfl pK ?_
        refine ef HT 27 rfl pM ?_
        refine eS HT 28 rfl ?_
        refine eS HT 29 rfl ?_
        refine eS HT 30 rfl ?_
        refine eS HT 31 rfl ?_
        refine eS HT 32 rfl ?_
        refine eS HT 33 rfl ?_
        refine eS HT 34 rfl ?_
        refine eS HT 35 rfl ?_
        refine eS HT 36 rfl ?_
        refine eS HT 37 rfl ?_
        refine eS HT 38 rfl ?_
        refine eS HT 39 rfl ?_
        refine ef HT 40 rfl pK ?_
        refine eE HT ?_
        clear HT
        refine aCondT rfl ?_
        refine aSeq ?_
        refine aReg ?_
        refine sp pMa ?_
        refine oNil ?_
        refine aRet ?_
        refine finIs rfl ?_
        have hs := arcs_step (p := prevA l i) hx10
        show AV.int 1 = AV.int _
        rw [hv, hs]
        by_cases h0 : i = 0 <;> simp_all [arcB, ordA, prevA]
        all_goals (intros; omega)
      · skip
        refine epG HT 5 rfl (pFb fd_36_1) ?_
        refine erG HT 6 rfl (rB1 ty_3) ?_
        refine e1G HT 7 rfl ?_
        refine cv rfl rfl rfl (lents_refl _) graph_node ?_
        refine efG HT 8 rfl pNo ?_
        refine ef HT 9 rfl pK ?_
        refine ef HT 10 rfl pM ?_
        refine eSplitNot 22 rfl (fun c22 => ?_) (fun c22 => ?_)
        · skip
          refine eS HT 11 rfl ?_
          refine eS HT 12 rfl ?_
          refine eS HT 13 rfl ?_
          refine eS HT 14 rfl ?_
          refine eS HT 15 rfl ?_
          refine ef HT 16 rfl pK ?_
          refine ef HT 17 rfl pM ?_
          refine eS HT 18 rfl ?_
          refine eS HT 19 rfl ?_
          refine eS HT 20 rfl ?_
          refine ef HT 21 rfl pK ?_
          refine ef HT 22 rfl pM ?_
          refine eS HT 23 rfl ?_
          refine eS HT 24 rfl ?_
          refine eS HT 25 rfl ?_
          refine ef HT 26 rfl pK ?_
          refine ef HT 27 rfl pM ?_
          refine eS HT 28 rfl ?_
          refine eS HT 29 rfl ?_
          refine eS HT 30 rfl ?_
          refine eS HT 31 rfl ?_
          refine eS HT 32 rfl ?_
          refine eS HT 33 rfl ?_
          refine eS HT 34 rfl ?_
          refine eS HT 35 rfl ?_
          refine eS HT 36 rfl ?_
          refine eS HT 37 rfl ?_
          refine eS HT 38 rfl ?_
          refine eS HT 39 rfl ?_
          refine ef HT 40 rfl pK ?_
          refine eE HT ?_
          clear HT
          refine aCondT rfl ?_
          refine aSeq ?_
          refine aReg ?_
          refine sp pMa ?_
          refine oNil ?_
          refine aRet ?_
          refine finIs rfl ?_
          have hs := arcs_step (p := prevA l i) hx10
          show AV.int 1 = AV.int _
          rw [hv, hs]
          by_cases h0 : i = 0 <;> simp_all [arcB, ordA, prevA]
          all_goals (intros; omega)
        · skip
          refine epG HT 11 rfl (pFb fd_36_0) ?_
          refine erG HT 12 rfl (rB1 ty_3) ?_
          refine epG HT 13 rfl (pFb fd_36_1) ?_
          refine erG HT 14 rfl (rB1 ty_3) ?_
          refine epG HT 15 rfl pB ?_
          refine ef HT 16 rfl pK ?_
          refine ef HT 17 rfl pM ?_
          refine eSplitEq 29 rfl (fun c29 => ?_) (fun c29 => ?_)
          · skip
            refine eS HT 18 rfl ?_
            refine eS HT 19 rfl ?_
            refine eS HT 20 rfl ?_
            refine ef HT 21 rfl pK ?_
            refine ef HT 22 rfl pM ?_
            refine eS HT 23 rfl ?_
            refine eS HT 24 rfl ?_
            refine eS HT 25 rfl ?_
            refine ef HT 26 rfl pK ?_
            refine ef HT 27 rfl pM ?_
            refine eS HT 28 rfl ?_
            refine eS HT 29 rfl ?_
            refine eS HT 30 rfl ?_
            refine eS HT 31 rfl ?_
            refine eS HT 32 rfl ?_
            refine eS HT 33 rfl ?_
            refine eS HT 34 rfl ?_
            refine eS HT 35 rfl ?_
            refine eS HT 36 rfl ?_
            refine eS HT 37 rfl ?_
            refine eS HT 38 rfl ?_
            refine eS HT 39 rfl ?_
            refine ef HT 40 rfl pK ?_
            refine eE HT ?_
            clear HT
            refine aCondT rfl ?_
            refine aSeq ?_
            refine aReg ?_
            refine sp pMa ?_
            refine oNil ?_
            refine aRet ?_
            refine finIs rfl ?_
            have hs := arcs_step (p := prevA l i) hx10
            show AV.int 1 = AV.int _
            rw [hv, hs]
            by_cases h0 : i = 0 <;> simp_all [arcB, ordA, prevA]
            all_goals (intros; omega)
          · skip
            refine epG HT 18 rfl (pFb fd_36_2) ?_
            refine erG HT 19 rfl (rB1 ty_3) ?_
            refine epG HT 20 rfl pB ?_
            refine ef HT 21 rfl pK ?_
            refine ef HT 22 rfl pM ?_
            refine eSplitDec 34 rfl (fun c34 => ?_) (fun c34 => ?_)
            · skip
              refine eS HT 23 rfl ?_
              refine eS HT 24 rfl ?_
              refine eS HT 25 rfl ?_
              refine ef HT 26 rfl pK ?_
              refine ef HT 27 rfl pM ?_
              refine eS HT 28 rfl ?_
              refine eS HT 29 rfl ?_
              refine eS HT 30 rfl ?_
              refine eS HT 31 rfl ?_
              refine eS HT 32 rfl ?_
              refine eS HT 33 rfl ?_
              refine eS HT 34 rfl ?_
              refine eS HT 35 rfl ?_
              refine eS HT 36 rfl ?_
              refine eS HT 37 rfl ?_
              refine eS HT 38 rfl ?_
              refine eS HT 39 rfl ?_
              refine ef HT 40 rfl pK ?_
              refine eE HT ?_
              clear HT
              refine aCondT rfl ?_
              refine aSeq ?_
              refine aReg ?_
              refine sp pMa ?_
              refine oNil ?_
              refine aRet ?_
              refine finIs rfl ?_
              have hs := arcs_step (p := prevA l i) hx10
              show AV.int 1 = AV.int _
              rw [hv, hs]
              by_cases h0 : i = 0 <;> simp_all [arcB, ordA, prevA]
              all_goals (intros; omega)
            · skip
              refine epG HT 23 rfl (pFb fd_36_2) ?_
              refine erG HT 24 rfl (rB1 ty_3) ?_
              refine epG HT 25 rfl pB ?_
              refine ef HT 26 rfl pK ?_
              refine ef HT 27 rfl pM ?_
              refine eSplitDec 39 rfl (fun c39 => ?_) (fun c39 => ?_)
              · skip
                refine eS HT 28 rfl ?_
                refine eS HT 29 rfl ?_
                refine eS HT 30 rfl ?_
                refine eS HT 31 rfl ?_
                refine eS HT 32 rfl ?_
                refine eS HT 33 rfl ?_
                refine eS HT 34 rfl ?_
                refine eS HT 35 rfl ?_
                refine eS HT 36 rfl ?_
                refine eS HT 37 rfl ?_
                refine eS HT 38 rfl ?_
                refine eS HT 39 rfl ?_
                refine ef HT 40 rfl pK ?_
                refine eE HT ?_
                clear HT
                refine aCondT rfl ?_
                refine aSeq ?_
                refine aReg ?_
                refine sp pMa ?_
                refine oNil ?_
                refine aRet ?_
                refine finIs rfl ?_
                have hs := arcs_step (p := prevA l i) hx10
                show AV.int 1 = AV.int _
                rw [hv, hs]
                by_cases h0 : i = 0 <;> simp_all [arcB, ordA, prevA]
                all_goals (intros; omega)
              · skip
                refine epG HT 28 rfl pM ?_
                refine epG HT 29 rfl pB ?_
                refine epG HT 30 rfl pM ?_
                refine eSplitDec 42 rfl (fun c42 => ?_) (fun c42 => ?_)
                · skip
                  refine epG HT 31 rfl pM ?_
                  refine epG HT 32 rfl pM ?_
                  refine epG HT 33 rfl pSu ?_
                  obtain ⟨b, hb⟩ := hprev (by omega)
                  have hb' : l[i - 1]? = some b := by rw [← hb]; congr 1; omega
                  first | refine epG HT 34 rfl (pIx es_22) ?_ | (refine obtEN 43 45 rfl rfl (by omega) (fun x46 hx46 => ?_); refine epG HT 34 rfl (pIs es_22 hx46) ?_) | (refine obtE 43 45 rfl rfl (by omega) (by omega) (fun x46 hx46 => ?_); refine epG HT 34 rfl (pIs es_22 hx46) ?_) | refine epG HT 34 rfl (pIo es_22) ?_
                  refine erG HT 35 rfl (by first | exact rSW ty_36 rfl | exact rSA ty_36) ?_
                  refine erG HT 36 rfl (by first | exact rBWa ty_36 | exact rBW ty_36 | exact rBA ty_36) ?_
                  refine e1G HT 37 rfl ?_
                  refine cv rfl rfl rfl (lents_refl _) graph_order ?_
                  refine efG HT 38 rfl pB ?_
                  refine efG HT 39 rfl pK ?_
                  refine ef HT 40 rfl pK ?_
                  refine eE HT ?_
                  clear HT
                  refine aCondDec rfl (fun c52 => ?_) (fun c52 => ?_)
                  · skip
                    refine aSeq ?_
                    refine aReg ?_
                    refine sp pMa ?_
                    refine oNil ?_
                    refine aRet ?_
                    refine finIs rfl ?_
                    have hs := arcs_step (p := prevA l i) hx10
                    show AV.int 1 = AV.int _
                    rw [hv, hs]
                    by_cases h0 : i = 0 <;> simp_all [arcB, ordA, prevA]
                    all_goals (intros; omega)
                  · skip
                    refine aSkip ?_
                    refine aReg ?_
                    refine sp pAd ?_
                    refine sp pM ?_
                    refine oNil ?_
                    refine ⟨i + 1, ?_, by (try dsimp only); omega, ⟨gInt rfl (by first | rfl | omega | simp), rfl, rfl, rfl, trivial⟩, _, (by repeat constructor)⟩
                    have hs := arcs_step (p := prevA l i) hx10
                    refine ⟨by omega, ?_⟩
                    rw [hv, hs, prevA_succ hx10]
                    by_cases h0 : i = 0 <;> simp_all [arcB, ordA, prevA]
                    all_goals (intros; omega)
                · skip
                  refine eS HT 31 rfl ?_
                  refine eS HT 32 rfl ?_
                  refine eS HT 33 rfl ?_
                  refine eS HT 34 rfl ?_
                  refine eS HT 35 rfl ?_
                  refine eS HT 36 rfl ?_
                  refine eS HT 37 rfl ?_
                  refine eS HT 38 rfl ?_
                  refine efG HT 39 rfl pK ?_
                  refine ef HT 40 rfl pK ?_
                  refine eE HT ?_
                  clear HT
                  refine aCondF rfl ?_
                  refine aSkip ?_
                  refine aReg ?_
                  refine sp pAd ?_
                  refine sp pM ?_
                  refine oNil ?_
                  refine ⟨i + 1, ?_, by (try dsimp only); omega, ⟨gInt rfl (by first | rfl | omega | simp), rfl, rfl, rfl, trivial⟩, _, (by repeat constructor)⟩
                  have hs := arcs_step (p := prevA l i) hx10
                  refine ⟨by omega, ?_⟩
                  rw [hv, hs, prevA_succ hx10]
                  by_cases h0 : i = 0 <;> simp_all [arcB, ordA, prevA]
                  all_goals (intros; omega)
    · skip
      refine aExit rfl ?_
      refine aSeq ?_
      refine aReg ?_
      refine sp pMa ?_
      refine oNil ?_
      refine aRet ?_
      refine finIs rfl ?_
      show AV.int 0 = AV.int _
      rw [hv, List.drop_of_length_le (by omega)]
      rfl
/- waymarkref24.May -/
def ref24_May_r7_T : Bool × List (List Nat × List Nat) := (true, [([], []), ([0], [0]), ([1], [1]), ([2], [2]), ([2], [2]), ([4, 2], [2, 4]), ([3, 5, 2], [2, 3, 5]), ([6, 2], [2, 6]), ([7, 2], [2, 7]), ([2], [2]), ([9, 2], [2, 9]), ([8, 10, 2], [2, 8, 10]), ([11, 2, 2], [2, 11]), ([12], [12]), ([12], [12]), ([14, 12], [12, 14]), ([13, 15, 12], [12, 13, 15]), ([16, 12], [12, 16]), ([17, 12], [12, 17]), ([12], [12]), ([19, 12], [12, 19]), ([18, 20, 12], [12, 18, 20]), ([21, 12, 12], [12, 21]), ([22], [22]), ([22], [22]), ([24, 22], [22, 24]), ([23, 25, 22], [22, 23, 25]), ([26, 22], [22, 26]), ([27, 22], [22, 27]), ([22], [22]), ([29, 22], [22, 29]), ([28, 30, 22], [22, 28, 30]), ([22, 31, 12], [12, 22, 31]), ([12, 32, 2], [2, 12, 32]), ([2, 33], [2, 33])])
def ref24_May_r7_B : List Nat := [0, 1, 3, 7, 7, 23, 63, 127, 255, 7, 519, 2047, 4095, 8191, 8191, 24575, 65535, 131071, 262143, 8191, 532479, 2097151, 4194303, 8388607, 8388607, 25165823, 67108863, 134217727, 268435455, 8388607, 545259519, 2147483647, 4294967295, 8589934591, 17179869183]
theorem ref24_May_r7_t : Go.Proofs.YtmcannmjielalaaW.PrintLast.rtab .any (Go.Proofs.YtmcannmjielalaaW.PrintLast.opsOf Try.f31 7) = ref24_May_r7_T := by kernel_rfl
theorem ref24_May_r7_b : Go.Proofs.YtmcannmjielalaaW.PrintLast.waitsOk ref24_May_r7_T.2 ref24_May_r7_B = true := by kernel_rfl
set_option maxRecDepth 100000 in
set_option maxHeartbeats 2000000 in
theorem ref24_May {l : List Arc} (hl : l.length ≤ 1000000 := by omega) : Triple Try.prog 31 [.sl 3 (l.map arcC)] [] (Is (.v (.bool (arcsB none l))) []) := by
  refine triple_of Try.func31 rfl (by kernel_rfl) rfl (by simp) ?_
  refine aSeq ?_
  refine aReg ?_
  refine sp pMa ?_
  refine oNil ?_
  refine aSeq ?_
  refine aSeq ?_
  refine aReg ?_
  refine sp pMa ?_
  refine oNil ?_
  refine aBlock ?_
  refine loopF (α := Nat) (kept := [(0, _)]) (fun i => i ≤ l.length ∧ arcsB none l = arcsB (prevA l i) (l.drop i)) (fun i => [(3, .int i)]) (fun i => []) (fun i => l.length - i) 0 ?_ ⟨gInt rfl (by first | rfl | omega | simp), rfl, trivial⟩ (by repeat constructor) ?_
  · skip
    exact ⟨by omega, rfl⟩
  · rintro i ⟨hi, hv⟩
    refine aSeq ?_
    refine aSeq ?_
    refine aReg ?_
    refine sp pM ?_
    refine sp pM ?_
    refine sp (by first | exact pLm sl_22 | exact pLs sl_22) ?_
    refine sp pB ?_
    refine oNil ?_
    refine aCondDec rfl (fun c8 => ?_) (fun c8 => ?_)
    · skip
      refine aSkip ?_
      refine aSeq ?_
      refine aBlock ?_
      refine aSeq ?_
      refine aReg ?_
      refine sp pM ?_
      refine sp pM ?_
      first | refine sp (pIx es_22) ?_ | (refine obtSN 11 12 rfl rfl (by omega) (fun x13 hx13 => ?_); refine sp (pIs es_22 hx13) ?_) | (refine obtS 11 12 rfl rfl (by omega) (by omega) (fun x13 hx13 => ?_); refine sp (pIs es_22 hx13) ?_) | refine sp (pIo es_22) ?_
      refine sr (by first | exact rSW ty_36 rfl | exact rSA ty_36) ?_
      refine sq ?_
      refine qAlloc rfl rfl (by decide) ze_36 rfl (fun b4 => ?_)
      refine sa ?_
      refine oStW rfl rfl rfl rfl (by repeat constructor) ty_36 ?_
      refine oNil ?_
      refine aSeq ?_
      refine aSeq ?_
      refine aReg ?_
      refine sp (pFb fd_36_0) ?_
      refine sr (rB1 ty_3) ?_
      refine sp pB ?_
      refine sp pM ?_
      refine oSplitDec 18 rfl (fun c18 => ?_) (fun c18 => ?_)
      · skip
        refine gf ?_
        refine gf ?_
        refine gf ?_
        refine sp pK ?_
        refine sp pM ?_
        refine gf ?_
        refine gf ?_
        refine gf ?_
        refine sp pK ?_
        refine sp pM ?_
        refine gf ?_
        refine gf ?_
        refine gf ?_
        refine sp pK ?_
        refine sp pM ?_
        refine gf ?_
        refine gf ?_
        refine gf ?_
        refine gf ?_
        refine gf ?_
        refine sp pK ?_
        refine sp pM ?_
        refine gf ?_
        refine gf ?_
        refine gf ?_
        refine sp pK ?_
        refine sp pM ?_
        refine gf ?_
        refine gf ?_
        refine gf ?_
        refine sp pK ?_
        refine oNil ?_
        refine aCondT rfl ?_
        refine aSeq ?_
        refine aReg ?_
        refine sp pMa ?_
        refine oNil ?_
        refine aRet ?_
        refine finIs rfl ?_
        have hs := arcs_step (p := prevA l i) hx13
        show AV.v (.bool false) = AV.v (.bool (arcsB none l))
        rw [hv, hs]
        by_cases h0 : i = 0 <;> simp_all [arcB, nodeB, ordA, prevA, orderA_lt, ltA]
        all_goals (intros; omega)
      · skip
        refine gp (pFb fd_36_0) ?_
        refine gr (rB1 ty_3) ?_
        refine gp pB ?_
        refine sp pK ?_
        refine sp pM ?_
        refine oSplitDec 23 rfl (fun c23 => ?_) (fun c23 => ?_)
        · skip
          refine gf ?_
          refine gf ?_
          refine gf ?_
          refine sp pK ?_
          refine sp pM ?_
          refine gf ?_
          refine gf ?_
          refine gf ?_
          refine sp pK ?_
          refine sp pM ?_
          refine gf ?_
          refine gf ?_
          refine gf ?_
          refine gf ?_
          refine gf ?_
          refine sp pK ?_
          refine sp pM ?_
          refine gf ?_
          refine gf ?_
          refine gf ?_
          refine sp pK ?_
          refine sp pM ?_
          refine gf ?_
          refine gf ?_
          refine gf ?_
          refine sp pK ?_
          refine oNil ?_
          refine aCondT rfl ?_
          refine aSeq ?_
          refine aReg ?_
          refine sp pMa ?_
          refine oNil ?_
          refine aRet ?_
          refine finIs rfl ?_
          have hs := arcs_step (p := prevA l i) hx13
          show AV.v (.bool false) = AV.v (.bool (arcsB none l))
          rw [hv, hs]
          by_cases h0 : i = 0 <;> simp_all [arcB, nodeB, ordA, prevA, orderA_lt, ltA]
          all_goals (intros; omega)
        · skip
          refine gp (pFb fd_36_1) ?_
          refine gr (rB1 ty_3) ?_
          refine gp pB ?_
          refine sp pK ?_
          refine sp pM ?_
          refine oSplitDec 28 rfl (fun c28 => ?_) (fun c28 => ?_)
          · skip
            refine gf ?_
            refine gf ?_
            refine gf ?_
            refine sp pK ?_
            refine sp pM ?_
            refine gf ?_
            refine gf ?_
            refine gf ?_
            refine gf ?_
            refine gf ?_
            refine sp pK ?_
            refine sp pM ?_
            refine gf ?_
            refine gf ?_
            refine gf ?_
            refine sp pK ?_
            refine sp pM ?_
            refine gf ?_
            refine gf ?_
            refine gf ?_
            refine sp pK ?_
            refine oNil ?_
            refine aCondT rfl ?_
            refine aSeq ?_
            refine aReg ?_
            refine sp pMa ?_
            refine oNil ?_
            refine aRet ?_
            refine finIs rfl ?_
            have hs := arcs_step (p := prevA l i) hx13
            show AV.v (.bool false) = AV.v (.bool (arcsB none l))
            rw [hv, hs]
            by_cases h0 : i = 0 <;> simp_all [arcB, nodeB, ordA, prevA, orderA_lt, ltA]
            all_goals (intros; omega)
          · skip
            refine gp (pFb fd_36_1) ?_
            refine gr (rB1 ty_3) ?_
            refine gp pB ?_
            refine sp pK ?_
            refine sp pM ?_
            refine oSplitDec 33 rfl (fun c33 => ?_) (fun c33 => ?_)
            · skip
              refine gf ?_
              refine gf ?_
              refine gf ?_
              refine gf ?_
              refine gf ?_
              refine sp pK ?_
              refine sp pM ?_
              refine gf ?_
              refine gf ?_
              refine gf ?_
              refine sp pK ?_
              refine sp pM ?_
              refine gf ?_
              refine gf ?_
              refine gf ?_
              refine sp pK ?_
              refine oNil ?_
              refine aCondT rfl ?_
              refine aSeq ?_
              refine aReg ?_
              refine sp pMa ?_
              refine oNil ?_
              refine aRet ?_
              refine finIs rfl ?_
              have hs := arcs_step (p := prevA l i) hx13
              show AV.v (.bool false) = AV.v (.bool (arcsB none l))
              rw [hv, hs]
              by_cases h0 : i = 0 <;> simp_all [arcB, nodeB, ordA, prevA, orderA_lt, ltA]
              all_goals (intros; omega)
            · skip
              refine gp (pFb fd_36_0) ?_
              refine gr (rB1 ty_3) ?_
              refine gp (pFb fd_36_1) ?_
              refine gr (rB1 ty_3) ?_
              refine gp pB ?_
              refine sp pK ?_
              refine sp pM ?_
              refine oSplitEq 40 rfl (fun c40 => ?_) (fun c40 => ?_)
              · skip
                refine gf ?_
                refine gf ?_
                refine gf ?_
                refine sp pK ?_
                refine sp pM ?_
                refine gf ?_
                refine gf ?_
                refine gf ?_
                refine sp pK ?_
                refine oNil ?_
                refine aCondT rfl ?_
                refine aSeq ?_
                refine aReg ?_
                refine sp pMa ?_
                refine oNil ?_
                refine aRet ?_
                refine finIs rfl ?_
                have hs := arcs_step (p := prevA l i) hx13
                show AV.v (.bool false) = AV.v (.bool (arcsB none l))
                rw [hv, hs]
                by_cases h0 : i = 0 <;> simp_all [arcB, nodeB, ordA, prevA, orderA_lt, ltA]
                all_goals (intros; omega)
              · skip
                refine gp (pFb fd_36_2) ?_
                refine gr (rB1 ty_3) ?_
                refine gp pB ?_
                refine sp pK ?_
                refine sp pM ?_
                refine oSplitDec 45 rfl (fun c45 => ?_) (fun c45 => ?_)
                · skip
                  refine gf ?_
                  refine gf ?_
                  refine gf ?_
                  refine sp pK ?_
                  refine oNil ?_
                  refine aCondT rfl ?_
                  refine aSeq ?_
                  refine aReg ?_
                  refine sp pMa ?_
                  refine oNil ?_
                  refine aRet ?_
                  refine finIs rfl ?_
                  have hs := arcs_step (p := prevA l i) hx13
                  show AV.v (.bool false) = AV.v (.bool (arcsB none l))
                  rw [hv, hs]
                  by_cases h0 : i = 0 <;> simp_all [arcB, nodeB, ordA, prevA, orderA_lt, ltA]
                  all_goals (intros; omega)
                · skip
                  refine gp (pFb fd_36_2) ?_
                  refine gr (rB1 ty_3) ?_
                  refine gp pB ?_
                  refine sp pK ?_
                  refine oNil ?_
                  refine aCondDec rfl (fun c49 => ?_) (fun c49 => ?_)
                  · skip
                    refine aSeq ?_
                    refine aReg ?_
                    refine sp pMa ?_
                    refine oNil ?_
                    refine aRet ?_
                    refine finIs rfl ?_
                    have hs := arcs_step (p := prevA l i) hx13
                    show AV.v (.bool false) = AV.v (.bool (arcsB none l))
                    rw [hv, hs]
                    by_cases h0 : i = 0 <;> simp_all [arcB, nodeB, ordA, prevA, orderA_lt, ltA]
                    all_goals (intros; omega)
                  · skip
                    refine aSkip ?_
                    refine aSeq ?_
                    have hprev : 0 < i → ∃ b, l[((i : Int) - 1).toNat]? = some b := fun h => ⟨_, List.getElem?_eq_getElem (by omega)⟩
                    refine aDrawT ref24_May_r7_t ref24_May_r7_b [] 35 #[false, false, false, false, false, false, false, false, false, false, false, false, false, false, false, false, false, false, false, false, false, false, false, false, false, false, false, false, false, false, false, false, false, false, false] (by kernel_rfl) rfl rfl (fun HT => ?_)
                    refine dp HT 0 rfl pM ?_
                    refine dp HT 1 rfl pB ?_
                    refine dp HT 2 rfl pM ?_
                    refine dSplitDec 52 rfl (fun c52 => ?_) (fun c52 => ?_)
                    · skip
                      refine dpG HT 3 rfl pM ?_
                      refine dpG HT 4 rfl pM ?_
                      refine dpG HT 5 rfl pSu ?_
                      obtain ⟨b, hb⟩ := hprev (by omega)
                      have hb' : l[i - 1]? = some b := by rw [← hb]; congr 1; omega
                      first | refine dpG HT 6 rfl (pIx es_22) ?_ | (refine obtDN 53 55 rfl rfl (by omega) (fun x56 hx56 => ?_); refine dpG HT 6 rfl (pIs es_22 hx56) ?_) | (refine obtD 53 55 rfl rfl (by omega) (by omega) (fun x56 hx56 => ?_); refine dpG HT 6 rfl (pIs es_22 hx56) ?_) | refine dpG HT 6 rfl (pIo es_22) ?_
                      refine dpG HT 7 rfl (pFs fd_36_0) ?_
                      refine drG HT 8 rfl (rS1 ty_3) ?_
                      refine dpG HT 9 rfl (pFb fd_36_0) ?_
                      refine drG HT 10 rfl (rB1 ty_3) ?_
                      refine dpG HT 11 rfl pB ?_
                      refine dpG HT 12 rfl pM ?_
                      refine dSplitDec 62 rfl (fun c62 => ?_) (fun c62 => ?_)
                      · skip
                        refine dS HT 13 rfl ?_
                        refine dS HT 14 rfl ?_
                        refine dS HT 15 rfl ?_
                        refine dS HT 16 rfl ?_
                        refine dS HT 17 rfl ?_
                        refine dS HT 18 rfl ?_
                        refine dS HT 19 rfl ?_
                        refine dS HT 20 rfl ?_
                        refine dS HT 21 rfl ?_
                        refine dS HT 22 rfl ?_
                        refine dS HT 23 rfl ?_
                        refine dS HT 24 rfl ?_
                        refine dS HT 25 rfl ?_
                        refine dS HT 26 rfl ?_
                        refine dS HT 27 rfl ?_
                        refine dS HT 28 rfl ?_
                        refine dS HT 29 rfl ?_
                        refine dS HT 30 rfl ?_
                        refine dS HT 31 rfl ?_
                        refine dS HT 32 rfl ?_
                        refine dpG HT 33 rfl pK ?_
                        refine dp HT 34 rfl pK ?_
                        refine dE HT ?_
                        clear HT
                        refine aCondT rfl ?_
                        refine aSeq ?_
                        refine aReg ?_
                        refine sp pMa ?_
                        refine oNil ?_
                        refine aRet ?_
                        refine finIs rfl ?_
                        have hs := arcs_step (p := prevA l i) hx13
                        show AV.v (.bool false) = AV.v (.bool (arcsB none l))
                        rw [hv, hs]
                        by_cases h0 : i = 0 <;> simp_all [arcB, nodeB, ordA, prevA, orderA_lt, ltA]
                        all_goals (intros; omega)
                      · skip
                        refine dpG HT 13 rfl pM ?_
                        refine dpG HT 14 rfl pM ?_
                        refine dpG HT 15 rfl pSu ?_
                        first | refine dpG HT 16 rfl (pIx es_22) ?_ | (refine obtDN 63 65 rfl rfl (by omega) (fun x66 hx66 => ?_); refine dpG HT 16 rfl (pIs es_22 hx66) ?_) | (refine obtD 63 65 rfl rfl (by omega) (by omega) (fun x66 hx66 => ?_); refine dpG HT 16 rfl (pIs es_22 hx66) ?_) | refine dpG HT 16 rfl (pIo es_22) ?_
                        refine dpG HT 17 rfl (pFs fd_36_0) ?_
                        refine drG HT 18 rfl (rS1 ty_3) ?_
                        refine dpG HT 19 rfl (pFb fd_36_0) ?_
                        refine drG HT 20 rfl (rB1 ty_3) ?_
                        refine dpG HT 21 rfl pB ?_
                        refine dpG HT 22 rfl pM ?_
                        refine dSplitEq 72 rfl (fun c72 => ?_) (fun c72 => ?_)
                        · skip
                          refine dpG HT 23 rfl pM ?_
                          refine dpG HT 24 rfl pM ?_
                          refine dpG HT 25 rfl pSu ?_
                          first | refine dpG HT 26 rfl (pIx es_22) ?_ | (refine obtDN 73 75 rfl rfl (by omega) (fun x76 hx76 => ?_); refine dpG HT 26 rfl (pIs es_22 hx76) ?_) | (refine obtD 73 75 rfl rfl (by omega) (by omega) (fun x76 hx76 => ?_); refine dpG HT 26 rfl (pIs es_22 hx76) ?_) | refine dpG HT 26 rfl (pIo es_22) ?_
                          refine dpG HT 27 rfl (pFs fd_36_1) ?_
                          refine drG HT 28 rfl (rS1 ty_3) ?_
                          refine dpG HT 29 rfl (pFb fd_36_1) ?_
                          refine drG HT 30 rfl (rB1 ty_3) ?_
                          refine dpG HT 31 rfl pB ?_
                          refine dpG HT 32 rfl pK ?_
                          refine dpG HT 33 rfl pK ?_
                          refine dp HT 34 rfl pK ?_
                          refine dE HT ?_
                          clear HT
                          refine aCondDec rfl (fun c84 => ?_) (fun c84 => ?_)
                          · skip
                            refine aSeq ?_
                            refine aReg ?_
                            refine sp pMa ?_
                            refine oNil ?_
                            refine aRet ?_
                            refine finIs rfl ?_
                            have hs := arcs_step (p := prevA l i) hx13
                            show AV.v (.bool false) = AV.v (.bool (arcsB none l))
                            rw [hv, hs]
                            by_cases h0 : i = 0 <;> simp_all [arcB, nodeB, ordA, prevA, orderA_lt, ltA]
                            all_goals (intros; omega)
                          · skip
                            refine aSkip ?_
                            refine aReg ?_
                            refine sp pM ?_
                            refine sp pAd ?_
                            refine sp pMa ?_
                            refine oNil ?_
                            refine ⟨i + 1, ?_, by (try dsimp only); omega, ⟨gInt rfl (by first | rfl | omega | simp), rfl, trivial⟩, _, (by repeat constructor)⟩
                            have hs := arcs_step (p := prevA l i) hx13
                            refine ⟨by omega, ?_⟩
                            rw [hv, hs, prevA_succ hx13]
                            by_cases h0 : i = 0 <;> simp_all [arcB, nodeB, ordA, prevA, orderA_lt, ltA]
                            all_goals (intros; omega)
                        · skip
                          refine dS HT 23 rfl ?_
                          refine dS HT 24 rfl ?_
                          refine dS HT 25 rfl ?_
                          refine dS HT 26 rfl ?_
                          refine dS HT 27 rfl ?_
                          refine dS HT 28 rfl ?_
                          refine dS HT 29 rfl ?_
                          refine dS HT 30 rfl ?_
                          refine dS HT 31 rfl ?_
                          refine dpG HT 32 rfl pK ?_
                          refine dpG HT 33 rfl pK ?_
                          refine dp HT 34 rfl pK ?_
                          refine dE HT ?_
                          clear HT
                          refine aCondF rfl ?_
                          refine aSkip ?_
                          refine aReg ?_
                          refine sp pM ?_
                          refine sp pAd ?_
                          refine sp pMa ?_
                          refine oNil ?_
                          refine ⟨i + 1, ?_, by (try dsimp only); omega, ⟨gInt rfl (by first | rfl | omega | simp), rfl, trivial⟩, _, (by repeat constructor)⟩
                          have hs := arcs_step (p := prevA l i) hx13
                          refine ⟨by omega, ?_⟩
                          rw [hv, hs, prevA_succ hx13]
                          by_cases h0 : i = 0 <;> simp_all [arcB, nodeB, ordA, prevA, orderA_lt, ltA]
                          all_goals (intros; omega)
                    · skip
                      refine dS HT 3 rfl ?_
                      refine dS HT 4 rfl ?_
                      refine dS HT 5 rfl ?_
                      refine dS HT 6 rfl ?_
                      refine dS HT 7 rfl ?_
                      refine dS HT 8 rfl ?_
                      refine dS HT 9 rfl ?_
                      refine dS HT 10 rfl ?_
                      refine dS HT 11 rfl ?_
                      refine dS HT 12 rfl ?_
                      refine dS HT 13 rfl ?_
                      refine dS HT 14 rfl ?_
                      refine dS HT 15 rfl ?_
                      refine dS HT 16 rfl ?_
                      refine dS HT 17 rfl ?_
                      refine dS HT 18 rfl ?_
                      refine dS HT 19 rfl ?_
                      refine dS HT 20 rfl ?_
                      refine dS HT 21 rfl ?_
                      refine dS HT 22 rfl ?_
                      refine dS HT 23 rfl ?_
                      refine dS HT 24 rfl ?_
                      refine dS HT 25 rfl ?_
                      refine dS HT 26 rfl ?_
                      refine dS HT 27 rfl ?_
                      refine dS HT 28 rfl ?_
                      refine dS HT 29 rfl ?_
                      refine dS HT 30 rfl ?_
                      refine dS HT 31 rfl ?_
                      refine dS HT 32 rfl ?_
                      refine dS HT 33 rfl ?_
                      refine dp HT 34 rfl pK ?_
                      refine dE HT ?_
                      clear HT
                      refine aCondF rfl ?_
                      refine aSkip ?_
                      refine aReg ?_
                      refine sp pM ?_
                      refine sp pAd ?_
                      refine sp pMa ?_
                      refine oNil ?_
                      refine ⟨i + 1, ?_, by (try dsimp only); omega, ⟨gInt rfl (by first | rfl | omega | simp), rfl, trivial⟩, _, (by repeat constructor)⟩
                      have hs := arcs_step (p := prevA l i) hx13
                      refine ⟨by omega, ?_⟩
                      rw [hv, hs, prevA_succ hx13]
                      by_cases h0 : i = 0 <;> simp_all [arcB, nodeB, ordA, prevA, orderA_lt, ltA]
                      all_goals (intros; omega)
    · skip
      refine aExit rfl ?_
      refine aSeq ?_
      refine aReg ?_
      refine sp pMa ?_
      refine oNil ?_
      refine aRet ?_
      refine finIs rfl ?_
      show AV.v (.bool true) = AV.v (.bool _)
      rw [hv, List.drop_of_length_le (by omega)]
      rfl
end A
end Go.Proofs.Ytmcannmjielalaa
set_option linter.unusedVariables false
set_option linter.unusedSimpArgs false
namespace Go.Proofs.Ytmcannmjielalaa
namespace A
theorem op_Arc : OpC Try.prog 36 3 Arc arcC (fun _ => True) :=
  opMap (opStruct Try.underlying36 (by kernel_rfl) (fsCons rfl (by kernel_rfl) (opInt Try.underlying3) (fsCons rfl (by kernel_rfl) (opInt Try.underlying3) (fsCons rfl (by kernel_rfl) (opInt Try.underlying3) fsNil)))) (fun x => ⟨x.1, x.2.1, x.2.2.1⟩) (fun _ => rfl) (fun _ _ => trivial)
end A
end Go.Proofs.Ytmcannmjielalaa
set_option linter.unusedVariables false
set_option linter.unusedSimpArgs false
namespace Go.Proofs.Ytmcannmjielalaa
namespace A
def idxF {α : Type} (p : α → Bool) : List α → Int
  | [] => -1
  | x :: l => if p x then 0 else if idxF p l < 0 then -1 else idxF p l + 1
theorem idxF_no {α : Type} {p : α → Bool} : ∀ {l : List α}, (∀ x ∈ l, p x = false) → idxF p l = -1 ∧ l.find? p = none
  | [], _ => ⟨rfl, rfl⟩
  | x :: l, h => by
    have h1 := h x (by simp)
    obtain ⟨h2, h3⟩ := idxF_no (l := l) (fun y hy => h y (by simp [hy]))
    simp [idxF, List.find?, h1, h2, h3]
theorem idxF_at {α : Type} {p : α → Bool} : ∀ {l : List α} {i : Nat} {x : α}, (∀ y ∈ l.take i, p y = false) → l[i]? = some x → p x = true → idxF p l = i ∧ l.find? p = some x
  | [], _, _, _, h, _ => by simp at h
  | y :: l, 0, x, _, h, hp => by simp at h; subst h; simp [idxF, List.find?, hp]
  | y :: l, i + 1, x, h, hx, hp => by
    have h1 := h y (by simp)
    obtain ⟨h2, h3⟩ := idxF_at (l := l) (i := i) (fun z hz => h z (by simp [hz])) (by simpa using hx) hp
    simp only [idxF, List.find?, h1, h2, h3, Bool.false_eq_true, if_false]
    rw [if_neg (by omega)]
    refine ⟨by simp, ?_⟩
    first | rfl | trivial
end A
end Go.Proofs.Ytmcannmjielalaa
set_option linter.unusedVariables false
set_option linter.unusedSimpArgs false
namespace Go.Proofs.Ytmcannmjielalaa
namespace A
theorem el_25 : elemOf Try.prog 25 = some (3, 1, 8) := by kernel_rfl
theorem ty_144 : tyOf Try.prog 144 = some (1, false) := by kernel_rfl
theorem ty_25 : tyOf Try.prog 25 = some (1, false) := by kernel_rfl
theorem um_144 : Try.prog.underlying 144 = some (.map 3 4) := by kernel_rfl
/- maps.Keys[map[int]bool,int,bool]$1 -/
set_option maxRecDepth 100000 in
set_option maxHeartbeats 400000 in
theorem keys1_mib (b pb : Nat) (kvs : List (Int × AV)) (l : Nat) (I : List (List AV) → List HA → Prop) (S : List HA → Prop) (hy : ∀ pre x hc, KNx kvs pre x → I pre hc → YTriple Try.prog l x hc (fun r h' => ∃ v : Bool, r = .v (.bool v) ∧ (v = true → I (pre ++ [x]) h') ∧ (v = false → S h'))) (hc0 : List HA) (h0 : I [] hc0) : Triple Try.prog 215 [.fn (.yield l) [], .v (.pointer (some ⟨pb, 0, none⟩))] (.box pb [.v (.map (some b))] :: .map b kvs :: hc0) (fun r h' => ∃ hc', h' = .box pb [.v (.map (some b))] :: .map b kvs :: hc' ∧ ((∃ xs, KE kvs xs ∧ I xs hc') ∨ S hc')) := by
  refine triple_of Try.func215 rfl (by kernel_rfl) rfl (by simp) ?_
  refine aSeq ?_
  refine aReg ?_
  refine sr (rB1 ty_144) ?_
  refine sa ?_
  refine oRange rfl rfl (by decide) rfl (by repeat constructor) um_144 (fun r5 => ?_)
  refine oNil ?_
  refine aBlock ?_
  refine aLoopI (α := List Nat × List HA) (fun (idx, hc) => Idx kvs.length idx ∧ I (idx.map fun i => intA (keyAt kvs i)) hc) (fun (idx, hc) => ([(0, .fn (.yield l) []), (5, .v (.pointer (some ⟨r5, 0, none⟩)))], .mapIt b r5 kvs idx :: .box pb [.v (.map (some b))] :: hc)) (fun (idx, hc) => kvs.length - idx.length) ([], hc0) ?_ ?_ ?_
  · skip
    exact ⟨Idx.nil, h0⟩
  · skip
    exact weak_env ⟨rfl, rfl, trivial⟩
  · rintro ⟨idx, hc⟩ ⟨hix, hi⟩
    skip
    refine aSeq ?_
    refine aReg ?_
    refine sa ?_
    refine oNextR rfl rfl (by decide) rfl (by repeat constructor) (fun t6 ks6 ix6 hn6 => ?_)
    refine sp pX ?_
    refine oNil ?_
    refine aSeq ?_
    refine aCond rfl (fun c7 => ?_) (fun c7 => ?_)
    · skip
      refine aSkip ?_
      refine aBlock ?_
      refine aSeq ?_
      refine aReg ?_
      obtain ⟨i, kv, hkv, hni, rfl, rfl⟩ := hn6.yes c7
      refine sr (rEntry rfl rfl (by repeat constructor) hkv) ?_
      refine sp pX ?_
      refine sp pMa ?_
      refine oNil ?_
      refine aSeq ?_
      refine aReg ?_
      refine sp pM ?_
      refine sp pM ?_
      refine oYield (hfr := [.mapIt b r5 kvs (idx ++ [i]), .box pb [.v (.map (some b))]]) rfl rfl rfl (by decide) rfl rfl (hy _ (intA kv.1) hc (hix.knx hkv hni) hi) ?_
      rintro _ h2 ⟨v, rfl, hq1, hq2⟩
      refine sp pNo ?_
      refine oNil ?_
      refine aCondNot rfl (fun c13 => ?_) (fun c13 => ?_)
      · skip
        refine aWeak (weak_unmap .hd) ?_
        refine aRet ?_
        exact ⟨_, _, [], rfl, .cons (.tl .hd) (.cons .hd tk_refl), h2, rfl, .inr (hq2 (by simpa using c13))⟩
      · skip
        refine aSkip ?_
        have hil := (List.getElem?_eq_some_iff.1 hkv).1
        have hlt := hix.lt hil hni
        have hq := hq1 (by simpa using c13)
        refine ⟨(idx ++ [i], h2), ⟨hix.add hil hni, ?_⟩, by show kvs.length - (idx ++ [i]).length < kvs.length - idx.length; simp only [List.length_append, List.length_cons, List.length_nil]; omega, weak_env ⟨rfl, rfl, trivial⟩⟩
        rw [List.map_append, List.map_singleton, keyAt_get hkv]
        exact hq
    · skip
      obtain ⟨rfl, rfl, hall⟩ := hn6.no c7
      refine aWeak (weak_unmap .hd) ?_
      refine aExit rfl ?_
      exact ⟨_, _, [], rfl, .cons (.tl .hd) (.cons .hd tk_refl), hc, rfl, .inl ⟨_, hix.ke hall, hi⟩⟩
theorem keys1_mib_iter (b pb : Nat) (kvs : List (Int × AV)) : IterT Try.prog 215 [.v (.pointer (some ⟨pb, 0, none⟩))] (KNx kvs) (KE kvs) [.box pb [.v (.map (some b))], .map b kvs] :=
  ⟨⟨_, Try.func215, by kernel_rfl, rfl⟩, fun l I S hy hc h0 => keys1_mib b pb kvs l I S (fun pre x hc hn hi => (hy pre x hc hn hi).bool) hc h0⟩
/- maps.Keys[map[int]bool,int,bool] -/
set_option maxRecDepth 100000 in
set_option maxHeartbeats 400000 in
theorem keys_mib (b : Nat) : Triple Try.prog 119 [.v (.map (some b))] [] (fun r h' => ∃ pb, r = .fn (.func 215) [.v (.pointer (some ⟨pb, 0, none⟩))] ∧ h' = [.box pb [.v (.map (some b))]]) := by
  refine triple_of Try.func119 rfl (by kernel_rfl) rfl (by simp) ?_
  refine aSeq ?_
  refine aReg ?_
  refine sq ?_
  refine qBox rfl rfl (by decide) rfl rfl (fun b1 => ?_)
  refine sp pMa ?_
  refine oNil ?_
  refine aSeq ?_
  refine aReg ?_
  refine sp (pFn rfl rfl) ?_
  refine sp pMa ?_
  refine oNil ?_
  refine aRet ?_
  exact ⟨_, [_], [], rfl, .cons .hd .nil, b1, rfl, rfl⟩
def srt_ren : Go.Shelf.Ren := ⟨fun | 189 => 193 | 125 => 243 | 257 => 254 | 128 => 282 | 129 => 283 | 294 => 308 | 295 => 309 | 296 => 310 | 297 => 311 | 298 => 312 | 299 => 313 | 216 => 227 | 300 => 314 | 301 => 315 | 328 => 333 | 329 => 320 | 330 => 321 | 331 => 334 | 332 => 335 | 215 => 246 | 343 => 341 | n => n, fun | 28 => 25 | 3 => 3 | 46 => 270 | 0 => 0 | 51 => 313 | 53 => 37 | 4 => 4 | 183 => 307 | 182 => 306 | 131 => 175 | 5 => 5 | 9 => 9 | 218 => 341 | 222 => 344 | 228 => 354 | 229 => 187 | n => n, fun | n => n⟩
theorem srt : Go.Proofs.Lays.n189 Try.prog srt_ren := {
  mixed := by kernel_rfl,
  f125 := Try.func243.trans (congrArg some (by kernel_rfl)),
  f128 := Try.func282.trans (congrArg some (by kernel_rfl)),
  f129 := Try.func283.trans (congrArg some (by kernel_rfl)),
  f189 := Try.func193.trans (congrArg some (by kernel_rfl)),
  f215 := Try.func246.trans (congrArg some (by kernel_rfl)),
  f216 := Try.func227.trans (congrArg some (by kernel_rfl)),
  f257 := Try.func254.trans (congrArg some (by kernel_rfl)),
  f294 := Try.func308.trans (congrArg some (by kernel_rfl)),
  f295 := Try.func309.trans (congrArg some (by kernel_rfl)),
  f296 := Try.func310.trans (congrArg some (by kernel_rfl)),
  f297 := Try.func311.trans (congrArg some (by kernel_rfl)),
  f298 := Try.func312.trans (congrArg some (by kernel_rfl)),
  f299 := Try.func313.trans (congrArg some (by kernel_rfl)),
  f300 := Try.func314.trans (congrArg some (by kernel_rfl)),
  f301 := Try.func315.trans (congrArg some (by kernel_rfl)),
  f328 := Try.func333.trans (congrArg some (by kernel_rfl)),
  f329 := Try.func320.trans (congrArg some (by kernel_rfl)),
  f330 := Try.func321.trans (congrArg some (by kernel_rfl)),
  f331 := Try.func334.trans (congrArg some (by kernel_rfl)),
  f332 := Try.func335.trans (congrArg some (by kernel_rfl)),
  f343 := Try.func341.trans (congrArg some (by kernel_rfl)),
  t0 := Try.underlying0,
  a0 := Try.isAgg0,
  z0 := Try.sizeOf0,
  v0 := Try.zeroValue0,
  t3 := Try.underlying3,
  a3 := Try.isAgg3,
  z3 := Try.sizeOf3,
  v3 := Try.zeroValue3,
  t4 := Try.underlying4,
  a4 := Try.isAgg4,
  z4 := Try.sizeOf4,
  v4 := Try.zeroValue4,
  t5 := Try.underlying5,
  a5 := Try.isAgg5,
  z5 := Try.sizeOf5,
  v5 := Try.zeroValue5,
  t9 := Try.underlying9,
  a9 := Try.isAgg9,
  z9 := Try.sizeOf9,
  v9 := Try.zeroValue9,
  t28 := Try.underlying25,
  a28 := Try.isAgg25,
  z28 := Try.sizeOf25,
  v28 := Try.zeroValue25,
  t46 := Try.underlying270,
  a46 := Try.isAgg270,
  z46 := Try.sizeOf270,
  v46 := Try.zeroValue270,
  t51 := Try.underlying313,
  a51 := Try.isAgg313,
  z51 := Try.sizeOf313,
  v51 := Try.zeroValue313,
  t53 := Try.underlying37,
  a53 := Try.isAgg37,
  z53 := Try.sizeOf37,
  v53 := Try.zeroValue37,
  t131 := Try.underlying175,
  a131 := Try.isAgg175,
  z131 := Try.sizeOf175,
  v131 := Try.zeroValue175,
  t182 := Try.underlying306,
  a182 := Try.isAgg306,
  z182 := Try.sizeOf306,
  v182 := Try.zeroValue306,
  t183 := Try.underlying307,
  a183 := Try.isAgg307,
  z183 := Try.sizeOf307,
  v183 := Try.zeroValue307,
  t218 := Try.underlying341,
  a218 := Try.isAgg341,
  z218 := Try.sizeOf341,
  v218 := Try.zeroValue341,
  t222 := Try.underlying344,
  a222 := Try.isAgg344,
  z222 := Try.sizeOf344,
  v222 := Try.zeroValue344,
  t228 := Try.underlying354,
  a228 := Try.isAgg354,
  z228 := Try.sizeOf354,
  v228 := Try.zeroValue354,
  t229 := Try.underlying187,
  a229 := Try.isAgg187,
  z229 := Try.sizeOf187,
  v229 := Try.zeroValue187 }
/- slices.AppendSeq[[]int,int] -/
set_option maxRecDepth 100000 in
set_option maxHeartbeats 400000 in
theorem appendSeq_int (gf : FuncId) (caps : List AV) (kvs : List (Int × AV)) (hit : List HA) (it : IterT Try.prog gf caps (KNx kvs) (KE kvs) hit) (hl : kvs.length ≤ 1000000) : Triple Try.prog 262 [(.v (.slice none 0 0)), .fn (.func gf) caps] hit (fun r h' => ∃ (ks : List Int) (g : Option Nat) (c : Nat), r = .v (slV g ks.length c) ∧ h' = .sl g c 3 1 (ks.map intA) :: hit ∧ ks.Perm (kvs.map Prod.fst)) := by
  refine triple_of Try.func262 rfl (by kernel_rfl) rfl (by simp) ?_
  refine aSeq ?_
  refine aReg ?_
  refine sq ?_
  refine qBox rfl rfl (by decide) rfl rfl (fun b2 => ?_)
  refine sp pMa ?_
  refine oNil ?_
  refine aSeq ?_
  refine aSeq ?_
  refine aReg ?_
  refine sp pM ?_
  refine oNil ?_
  refine aBlock ?_
  refine aRangeFunc (α := List Int × Option Nat × Nat) (fun (ks, g, c) => [.sl g c 3 1 (ks.map intA), .box b2 [.v (slV g ks.length c)]]) (fun pre (ks, g, c) => pre = ks.map intA) ([], none, 0) rfl (by decide) it ?_ ?_ ?_ ?_ ?_
  · skip
    rintro _ _ ⟨_, _, _, rfl, _⟩; rfl
  · skip
    refine Weak.trans (weak_nil 3 1) ?_
    exact weak_perm (List.perm_append_comm (l₁ := [_, _]))
  · skip
    rfl
  · rintro pre x ⟨ks, g, c⟩ ⟨ks', k, hpre, rfl, hkl⟩ hJ
    replace hJ : pre = ks.map intA := hJ
    obtain rfl : ks = ks' := intA_inj (hJ.symm.trans hpre)
    refine aReg ?_
    refine sp pMa ?_
    refine oNil ?_
    refine aBlock ?_
    refine aReg ?_
    refine sr (by first | exact rS1 ty_25 | exact rB1 ty_25 | exact rAr ty_25 | exact rArL ty_25 | exact rArR2 ty_25) ?_
    refine sp pM ?_
    refine sq ?_
    refine qLit (l := [_]) rfl rfl (by decide) us_25 ty_3 ze_3 rfl (by decide) (by decide) rfl rfl rfl (fun b10 => ?_)
    refine sa ?_
    refine oAppT [_] rfl rfl (by repeat constructor) (srcOwn rfl (by repeat constructor) rfl) el_25 sl_25 (fun g11 k11 => ?_)
    refine sa ?_
    refine oStB rfl rfl rfl rfl (by repeat constructor) ty_25 rfl (Nat.le_of_ble_eq_true rfl) rfl ?_
    refine oNil ?_
    refine ⟨(ks ++ [k], g11, k11), by show pre ++ _ = List.map intA (ks ++ [k]); rw [List.map_append, hJ]; rfl, ?_⟩
    simp only [List.map_append, List.map_cons, List.map_nil, List.length_append, List.length_cons, List.length_nil, List.length_map]
    exact weak_sub trivial (by repeat constructor)
  · rintro xs ⟨ks, g, c⟩ hE hJ
    try dsimp only [List.nil_append, List.cons_append]
    replace hJ : xs = ks.map intA := hJ
    obtain ⟨ks', hks, hperm⟩ := hE
    obtain rfl : ks = ks' := intA_inj (hJ.symm.trans hks)
    refine aWeak (weak_perm List.perm_append_comm) ?_
    refine aSeq ?_
    refine aReg ?_
    refine sr (by first | exact rS1 ty_25 | exact rB1 ty_25 | exact rAr ty_25 | exact rArL ty_25 | exact rArR2 ty_25) ?_
    refine sp pMa ?_
    refine oNil ?_
    refine aRet ?_
    exact ⟨_, _ :: hit, [_], rfl, .cons .hd (tk_after (l := [_])), ks, g, c, rfl, rfl, hperm⟩
/- slices.Collect[int] -/
set_option maxRecDepth 100000 in
set_option maxHeartbeats 400000 in
theorem collect_int (gf : FuncId) (caps : List AV) (kvs : List (Int × AV)) (hit : List HA) (it : IterT Try.prog gf caps (KNx kvs) (KE kvs) hit) (hl : kvs.length ≤ 1000000) : Triple Try.prog 214 [.fn (.func gf) caps] hit (fun r h' => ∃ (ks : List Int) (g : Option Nat) (c : Nat), r = .v (slV g ks.length c) ∧ h' = .sl g c 3 1 (ks.map intA) :: hit ∧ ks.Perm (kvs.map Prod.fst)) := by
  refine triple_of Try.func214 rfl (by kernel_rfl) rfl (by simp) ?_
  refine aSeq ?_
  refine aReg ?_
  refine sp pMa ?_
  refine oNil ?_
  refine aSeq ?_
  refine aReg ?_
  refine sp pM ?_
  refine sa ?_
  refine aCall (hin := hit) (hfr := []) rfl rfl (by decide) rfl rfl tk_refl (appendSeq_int gf caps kvs hit it hl) ?_
  rintro _ _ ⟨ks, g, c, rfl, rfl, hperm⟩
  refine sp pMa ?_
  refine oNil ?_
  refine aRet ?_
  refine ⟨_, _ :: hit, [], rfl, ?_, ks, g, c, rfl, rfl, hperm⟩
  rw [List.append_nil]
  exact tk_refl
/- slices.Sorted[int] -/
set_option maxRecDepth 100000 in
set_option maxHeartbeats 400000 in
theorem sorted_int (gf : FuncId) (caps : List AV) (kvs : List (Int × AV)) (hit : List HA) (it : IterT Try.prog gf caps (KNx kvs) (KE kvs) hit) (hl : kvs.length ≤ 1000000) : Triple Try.prog 118 [.fn (.func gf) caps] hit (fun r h' => ∃ g c, r = .v (slV g (sortI (kvs.map Prod.fst)).length c) ∧ h' = .sl g c 3 1 ((sortI (kvs.map Prod.fst)).map intA) :: hit) := by
  refine triple_of Try.func118 rfl (by kernel_rfl) rfl (by simp) ?_
  refine aSeq ?_
  refine aReg ?_
  refine sp pMa ?_
  refine oNil ?_
  refine aSeq ?_
  refine aReg ?_
  refine sp pM ?_
  refine sa ?_
  refine aCall (hin := hit) (hfr := []) rfl rfl (by decide) rfl rfl tk_refl (collect_int gf caps kvs hit it hl) ?_
  rintro _ _ ⟨ks, g, c, rfl, rfl, hperm⟩
  refine sp pMa ?_
  refine oNil ?_
  refine aSeq ?_
  refine aReg ?_
  refine sp pM ?_
  refine sa ?_
  refine aCall (hin := [_]) (hfr := hit ++ []) rfl rfl (by decide) rfl rfl (.cons .hd .nil) (triple_sort srt rfl ⟨_, Try.func193, by kernel_rfl, rfl⟩ g c 3 ks (by have := hperm.length_eq; rw [List.length_map] at this; omega)) ?_
  rintro _ _ ⟨rfl, rfl⟩
  refine oNil ?_
  refine aSeq ?_
  refine aReg ?_
  refine sp pM ?_
  refine sp pMa ?_
  refine oNil ?_
  refine aRet ?_
  have hs : sortI ks = sortI (kvs.map Prod.fst) := sortI_perm hperm
  refine ⟨_, .sl g c 3 1 ((sortI ks).map intA) :: hit, [], rfl, ?_, g, c, ?_, ?_⟩
  · show Tk (_ :: (hit ++ [])) _ _
    rw [List.append_nil]
    exact tk_refl
  · rw [← hs, sortI_length]; rfl
  · rw [hs]
end A
end Go.Proofs.Ytmcannmjielalaa
set_option linter.unusedVariables false
set_option linter.unusedSimpArgs false
namespace Go.Proofs.Ytmcannmjielalaa
namespace A
theorem mo_144 : mapOf Try.prog 144 = some (3, 4) := by kernel_rfl
theorem us_22 : Try.prog.underlying 22 = some (.slice 36) := by kernel_rfl
/- api.Arc] -/
set_option maxRecDepth 100000 in
set_option maxHeartbeats 400000 in
theorem index_Arc {f : FuncId} {caps : List AV} {p : Arc → Bool} (hf : ∀ x : Arc, Triple Try.prog f ([AV.agg (arcC x)] ++ caps) [] (Is (.v (.bool (p x))) [])) (l : List Arc) (hl : l.length ≤ 1000000) : Triple Try.prog 196 [.sl 3 (l.map arcC), .fn (.func f) caps] [] (Is (.v (.int .i64 (idxF p l))) []) := by
  refine triple_of Try.func196 rfl (by kernel_rfl) rfl (by simp) ?_
  refine aSeq ?_
  refine aReg ?_
  refine sp pMa ?_
  refine oNil ?_
  refine aSeq ?_
  refine aSeq ?_
  refine aReg ?_
  refine sp pM ?_
  refine sp (by first | exact pLm sl_22 | exact pLs sl_22) ?_
  refine sp pM ?_
  refine oNil ?_
  refine aBlock ?_
  refine loopF (α := Nat) (kept := [(0, _), (1, _), (7, _)]) (fun i => i ≤ l.length ∧ ∀ y ∈ l.take i, p y = false) (fun i => [(8, .int i)]) (fun i => []) (fun i => l.length - i) 0 ?_ ⟨gInt rfl (by first | rfl | omega | simp), rfl, rfl, rfl, trivial⟩ (by repeat constructor) ?_
  · skip
    exact ⟨by omega, fun y hy => by simp at hy⟩
  · rintro i ⟨hi, hv⟩
    refine aSeq ?_
    refine aReg ?_
    refine sp pB ?_
    refine oNil ?_
    refine aSeq ?_
    refine aCondDec rfl (fun c9 => ?_) (fun c9 => ?_)
    · skip
      refine aSkip ?_
      refine aSeq ?_
      refine aBlock ?_
      refine aSeq ?_
      refine aReg ?_
      refine sp pM ?_
      refine sp pMa ?_
      refine oNil ?_
      refine aSeq ?_
      obtain ⟨x, hx⟩ : ∃ x, l[i]? = some x := ⟨_, List.getElem?_eq_getElem (by omega)⟩
      refine aReg ?_
      refine sp pM ?_
      refine sp pM ?_
      refine sp pM ?_
      first | refine sp (pIx es_22) ?_ | (refine obtSN 12 13 rfl rfl (by omega) (fun x14 hx14 => ?_); refine sp (pIs es_22 hx14) ?_) | (refine obtS 12 13 rfl rfl (by omega) (by omega) (fun x14 hx14 => ?_); refine sp (pIs es_22 hx14) ?_) | refine sp (pIo es_22) ?_
      refine sr (by first | exact rSW ty_36 rfl | exact rSA ty_36) ?_
      refine sq ?_
      refine cv rfl rfl rfl (lents_refl _) (hf x) ?_
      refine oNil ?_
      refine aCond rfl (fun c16 => ?_) (fun c16 => ?_)
      · skip
        refine aSeq ?_
        refine aReg ?_
        refine sp pM ?_
        refine sp pMa ?_
        refine oNil ?_
        refine aRet ?_
        refine finIs rfl ?_
        show AV.int _ = AV.int _
        rw [(idxF_at hv hx (by simp_all)).1]
      · skip
        refine aSkip ?_
        refine aReg ?_
        refine sp pAd ?_
        refine sp pM ?_
        refine oNil ?_
        refine ⟨i + 1, ?_, by (try dsimp only); omega, ⟨gInt rfl (by first | rfl | omega | simp), rfl, rfl, rfl, trivial⟩, _, (by repeat constructor)⟩
        refine ⟨by omega, fun y hy => ?_⟩
        rw [take_step hx] at hy
        rcases List.mem_append.1 hy with hy | hy
        · exact hv y hy
        · rw [List.mem_singleton.1 hy]; simp_all
    · skip
      refine aExit rfl ?_
      refine aSeq ?_
      refine aReg ?_
      refine sp pMa ?_
      refine oNil ?_
      refine aRet ?_
      refine finIs rfl ?_
      show AV.int _ = AV.int _
      rw [take_all (by omega)] at hv
      rw [(idxF_no hv).1]
def endP (v : Int) (a : Arc) : Bool := a.f == v || a.t == v
def nodesM (l : List Arc) : List Int := ((List.range 65).map fun (i : Nat) => (i : Int)).filter fun v => l.any (endP v)
theorem nodesM_sorted (l : List Arc) : (nodesM l).Pairwise (· < ·) := by
  refine List.Pairwise.sublist List.filter_sublist ?_
  rw [List.pairwise_map]
  exact List.pairwise_lt_range.imp (fun h => by omega)
theorem nodesM_mem {l : List Arc} (hl : ∀ a ∈ l, AOk a) {v : Int} : v ∈ nodesM l ↔ ∃ a ∈ l, a.f = v ∨ a.t = v := by
  unfold nodesM endP
  rw [List.mem_filter]
  simp only [List.any_eq_true, Bool.or_eq_true, beq_iff_eq, List.mem_map, List.mem_range]
  refine ⟨fun h => h.2, fun h => ⟨?_, h⟩⟩
  obtain ⟨a, ha, e⟩ := h
  have hok := hl a ha
  unfold AOk at hok
  exact ⟨v.toNat, by omega, by omega⟩
theorem nodesM_len (l : List Arc) : (nodesM l).length ≤ 65 := by
  unfold nodesM
  refine Nat.le_trans (List.length_filter_le _ _) ?_
  simp
theorem nodesM_rng {l : List Arc} (hl : ∀ a ∈ l, AOk a) {v : Int} (h : v ∈ nodesM l) : 1 ≤ v ∧ v ≤ 64 := by
  obtain ⟨a, ha, e⟩ := (nodesM_mem hl).1 h
  have hok := hl a ha
  unfold AOk at hok
  omega
def NodeKeys (l : List Arc) (m : List (Int × Bool)) : Prop := (mKeys m).Nodup ∧ ∀ v, v ∈ mKeys m ↔ ∃ a ∈ l, a.f = v ∨ a.t = v
theorem NodeKeys.put {l : List Arc} {m : List (Int × Bool)} {a : Arc} {b c : Bool} (h : NodeKeys l m) : NodeKeys (l ++ [a]) (mPut (mPut m a.f b) a.t c) := by
  refine ⟨mPut_nodup (mPut_nodup h.1), fun v => ?_⟩
  rw [mPut_keys, mPut_keys, h.2]
  constructor
  · rintro (e | e | ⟨x, hx, e⟩)
    · exact ⟨a, by simp, .inr e.symm⟩
    · exact ⟨a, by simp, .inl e.symm⟩
    · exact ⟨x, by simp [hx], e⟩
  · rintro ⟨x, hx, e⟩
    rcases List.mem_append.1 hx with hx | hx
    · exact .inr (.inr ⟨x, hx, e⟩)
    · rw [List.mem_singleton.1 hx] at e
      rcases e with e | e
      · exact .inr (.inl e.symm)
      · exact .inl e.symm
theorem NodeKeys.sorted {l : List Arc} {m : List (Int × Bool)} (hl : ∀ a ∈ l, AOk a) (h : NodeKeys l m) : sortI (mKeys m) = nodesM l :=
  sortI_eq h.1 (nodesM_sorted l) (fun x => by rw [h.2, nodesM_mem hl])
theorem NodeKeys.len {l : List Arc} {m : List (Int × Bool)} (hl : ∀ a ∈ l, AOk a) (h : NodeKeys l m) : m.length ≤ 65 :=
  mLen h.1 (n := 65) (fun x hx => by have := nodesM_rng hl ((nodesM_mem hl).2 ((h.2 x).1 hx)); omega)
/- graph.Nodes -/
def graph_Nodes_r7_T : Bool × List (List Nat × List Nat) := (true, [([], []), ([], []), ([1], [1]), ([], []), ([], []), ([4], [4]), ([0, 2, 0, 1, 2], [0, 2]), ([3, 5, 6, 0, 1, 2, 3, 4, 5, 6], [3, 5])])
def graph_Nodes_r7_B : List Nat := [0, 0, 2, 0, 0, 16, 7, 127]
theorem graph_Nodes_r7_t : Go.Proofs.YtmcannmjielalaaW.PrintLast.rtab .any (Go.Proofs.YtmcannmjielalaaW.PrintLast.opsOf Try.f29 7) = graph_Nodes_r7_T := by kernel_rfl
theorem graph_Nodes_r7_b : Go.Proofs.YtmcannmjielalaaW.PrintLast.waitsOk graph_Nodes_r7_T.2 graph_Nodes_r7_B = true := by kernel_rfl
set_option maxRecDepth 100000 in
set_option maxHeartbeats 1000000 in
theorem graph_Nodes {l : List Arc} (hl : l.length ≤ 1000000 := by omega) : Triple Try.prog 29 [.sl 3 (l.map arcC)] [] (Own 3 1 ((if arcsB none l then nodesM l else []).map intA) []) := by
  refine triple_of Try.func29 rfl (by kernel_rfl) rfl (by simp) ?_
  refine aSeq ?_
  refine aReg ?_
  refine sp pMa ?_
  refine oNil ?_
  refine aSeq ?_
  refine aSeq ?_
  refine aReg ?_
  refine sp pM ?_
  refine sq ?_
  refine cv rfl rfl rfl (lents_refl _) graph_Check ?_
  refine sp pB ?_
  refine oNil ?_
  refine aCondNe rfl (fun c8 => ?_) (fun c8 => ?_)
  · skip
    refine aSeq ?_
    refine aWeak (weak_nil 3 1) ?_
    refine aReg ?_
    refine sp pMa ?_
    refine oNil ?_
    refine aRet ?_
    refine finOwn rfl ?_
    have hno : arcsB none l = false := by cases h : arcsB none l <;> simp_all
    rw [hno]
    rfl
  · skip
    refine aSkip ?_
    refine aSeq ?_
    have hyes : arcsB none l = true := by cases h : arcsB none l <;> simp_all
    have hok := arcs_ok hyes
    refine aReg ?_
    refine sq ?_
    refine qMM boA rfl (fun b9 => ?_)
    refine sp pMa ?_
    refine oNil ?_
    refine aSeq ?_
    refine aSeq ?_
    refine aReg ?_
    refine sp pM ?_
    refine sp (by first | exact pLm sl_22 | exact pLs sl_22) ?_
    refine sp pM ?_
    refine oNil ?_
    refine aBlock ?_
    refine loopF (α := Nat × List (Int × Bool)) (kept := [(3, _), (10, _), (11, _)]) (fun (i, m) => i ≤ l.length ∧ NodeKeys (l.take i) m) (fun (i, m) => [(12, .int i)]) (fun (i, m) => [.map b9 (kvM boA m)]) (fun (i, m) => l.length - i) (0, []) ?_ ⟨gInt rfl (by first | rfl | omega | simp), rfl, rfl, rfl, trivial⟩ (by repeat constructor) ?_
    · skip
      exact ⟨by omega, by simp [NodeKeys, mKeys]⟩
    · rintro ⟨i, m⟩ ⟨hi, hK⟩
      refine aSeq ?_
      refine aReg ?_
      refine sp pB ?_
      refine oNil ?_
      refine aSeq ?_
      refine aCondDec rfl (fun c13 => ?_) (fun c13 => ?_)
      · skip
        refine aSkip ?_
        refine aSeq ?_
        refine aBlock ?_
        refine aSeq ?_
        obtain ⟨a, ha⟩ : ∃ a, l[i]? = some a := ⟨_, List.getElem?_eq_getElem (by omega)⟩
        refine aReg ?_
        first | refine sp (pIx es_22) ?_ | (refine obtSN 10 12 rfl rfl (by omega) (fun x14 hx14 => ?_); refine sp (pIs es_22 hx14) ?_) | (refine obtS 10 12 rfl rfl (by omega) (by omega) (fun x14 hx14 => ?_); refine sp (pIs es_22 hx14) ?_) | refine sp (pIo es_22) ?_
        refine sr (by first | exact rSW ty_36 rfl | exact rSA ty_36) ?_
        refine sq ?_
        refine qAlloc rfl rfl (by decide) ze_36 rfl (fun b5 => ?_)
        refine sa ?_
        refine oStW rfl rfl rfl rfl (by repeat constructor) ty_36 ?_
        refine oNil ?_
        refine aDrawS (h1 := [.box b5 _]) graph_Nodes_r7_t graph_Nodes_r7_b [] 8 #[false, false, false, false, false, false, false, false] (by kernel_rfl) rfl rfl (by repeat constructor) (fun HT => ?_)
        refine ep HT 0 rfl pM ?_
        refine ep HT 1 rfl (pFb fd_36_0) ?_
        refine er HT 2 rfl (rB1 ty_3) ?_
        refine ep HT 3 rfl pM ?_
        refine ep HT 4 rfl (pFb fd_36_1) ?_
        refine er HT 5 rfl (rB1 ty_3) ?_
        refine eOneS (i := 6) #[true, true, true, true, true, true, true, false] rfl (HT.one (by kernel_rfl)) (by decide) ?_
        · skip
          refine stA (hx := [.map _ _]) (wantN rfl) (fun t ht => by cases ht <;> decide) (.cons (by repeat constructor) .nil) (by repeat constructor) ?_
          first | refine oMP rfl rfl rfl rfl mo_144 ?_ | refine oMapSet rfl rfl rfl rfl rfl (by repeat constructor) mo_144 ?_
          dsimp only [List.cons_append, List.nil_append]
          refine eOneS (i := 7) #[true, true, true, true, true, true, true, true] rfl (HT.one (by kernel_rfl)) (by decide) ?_
          · skip
            refine stA (hx := [.map _ _]) (wantN rfl) (fun t ht => by cases ht <;> decide) (.cons (by repeat constructor) .nil) (by repeat constructor) ?_
            first | refine oMP rfl rfl rfl rfl mo_144 ?_ | refine oMapSet rfl rfl rfl rfl rfl (by repeat constructor) mo_144 ?_
            dsimp only [List.cons_append, List.nil_append]
            refine eE HT ?_
            clear HT
            refine aReg ?_
            refine sp pAd ?_
            refine sp pM ?_
            refine oNil ?_
            refine ⟨(i + 1, _), ?_, by (try dsimp only); omega, ⟨gInt rfl (by first | rfl | omega | simp), rfl, rfl, rfl, trivial⟩, _, (by repeat constructor)⟩
            exact ⟨by omega, by rw [take_step ha]; exact hK.put⟩
      · skip
        rw [take_all (by omega)] at hK
        refine aExit rfl ?_
        refine aSeq ?_
        have hks := hK.sorted hok
        have hml := hK.len hok
        refine aReg ?_
        refine sp pM ?_
        refine sa ?_
        refine ca rfl rfl rfl (keys_mib b9) ?_
        rintro _ _ ⟨pb, rfl, rfl⟩
        refine sa ?_
        refine aCall (hin := _) (hfr := []) rfl rfl (by decide) rfl rfl tk_refl (sorted_int _ _ (kvM boA m) _ (keys1_mib_iter b9 pb (kvM boA m)) (by rw [kvM_len]; omega)) ?_
        rintro _ _ ⟨g, c, rfl, rfl⟩
        rw [kvM_keys, hks]
        refine sp pMa ?_
        refine oNil ?_
        refine aRet ?_
        refine finOwn rfl ?_
        rw [hyes]
        rfl
end A
end Go.Proofs.Ytmcannmjielalaa
set_option linter.unusedVariables false
set_option linter.unusedSimpArgs false
namespace Go.Proofs.Ytmcannmjielalaa
namespace A
theorem nodes_step {l : List Arc} {n : Nat} (h : n < 64) : ((List.range (n + 1 + 1)).map fun (i : Nat) => (i : Int)).filter (fun v => l.any (endP v)) = ((List.range (n + 1)).map fun (i : Nat) => (i : Int)).filter (fun v => l.any (endP v)) ++ if l.any (endP ((n + 1 : Nat) : Int)) then [((n + 1 : Nat) : Int)] else [] := by
  rw [List.range_succ, List.map_append, List.filter_append]
  congr 1
  rw [List.map_singleton, List.filter_cons, List.filter_nil]
theorem nodes_zero {l : List Arc} (hl : ∀ a ∈ l, AOk a) : ((List.range (0 + 1)).map fun (i : Nat) => (i : Int)).filter (fun v => l.any (endP v)) = [] := by
  have : l.any (endP 0) = false := by
    rw [List.any_eq_false]
    intro a ha
    have := hl a ha
    unfold AOk at this
    simp [endP]
    omega
  simp [this]
theorem any_take24 {α : Type} {p : α → Bool} {l : List α} {i : Nat} {a : α} (h : l[i]? = some a) : (l.take (i + 1)).any p = ((l.take i).any p || p a) := by rw [take_step h]; simp
/- waymarkref24.Nodes -/
set_option maxRecDepth 100000 in
set_option maxHeartbeats 1000000 in
theorem ref24_Nodes {l : List Arc} (hl : l.length ≤ 1000000 := by omega) (hok : ∀ a ∈ l, AOk a) : Triple Try.prog 36 [.sl 3 (l.map arcC)] [] (Own 3 1 ((nodesM l).map intA) []) := by
  refine triple_of Try.func36 rfl (by kernel_rfl) rfl (by simp) ?_
  refine aSeq ?_
  refine aReg ?_
  refine sp pMa ?_
  refine oNil ?_
  refine aSeq ?_
  refine aReg ?_
  refine sq ?_
  refine qLit (l := []) rfl rfl (by decide) us_25 ty_3 ze_3 rfl (by decide) (by decide) rfl rfl rfl (fun b7 => ?_)
  refine sp pMa ?_
  refine oNil ?_
  refine aSeq ?_
  refine aSeq ?_
  refine aReg ?_
  refine sp pMa ?_
  refine oNil ?_
  refine aBlock ?_
  refine loopF (α := Nat × List Int × Option Nat × Nat) (kept := [(0, _)]) (fun (n, out, g, c) => n ≤ 64 ∧ out = ((List.range (n + 1)).map fun (i : Nat) => (i : Int)).filter (fun v => l.any (endP v))) (fun (n, out, g, c) => [(4, .int ((n + 1 : Nat) : Int)), (3, .v (slV g out.length c))]) (fun (n, out, g, c) => [.sl g c 3 1 (out.map intA)]) (fun (n, out, g, c) => 64 - n) (0, [], _, _) ?_ ⟨gInt rfl (by first | rfl | omega | simp), gLen rfl (by first | rfl | simp | (simp; omega)), rfl, trivial⟩ (by repeat constructor) ?_
  · skip
    exact ⟨by omega, (nodes_zero hok).symm⟩
  · rintro ⟨n, out, g, c⟩ ⟨hn, ho⟩
    refine aSeq ?_
    refine aSeq ?_
    refine aReg ?_
    refine sp pM ?_
    refine sp pB ?_
    refine oNil ?_
    refine aCondDec rfl (fun c9 => ?_) (fun c9 => ?_)
    · skip
      refine aSkip ?_
      refine aSeq ?_
      refine aBlock ?_
      refine aSeq ?_
      refine aReg ?_
      refine sp pMa ?_
      refine oNil ?_
      refine aSeq ?_
      refine aSeq ?_
      refine aReg ?_
      refine sp pMa ?_
      refine oNil ?_
      refine aBlock ?_
      refine loopF (α := Nat × Bool) (kept := [(0, _), (3, _), (4, _)]) (fun (i, q) => i ≤ l.length ∧ q = (l.take i).any (endP ((n + 1 : Nat) : Int))) (fun (i, q) => [(6, .int i), (5, .v (.bool q))]) (fun (i, q) => []) (fun (i, q) => l.length - i) (0, false) ?_ ⟨gInt rfl (by first | rfl | omega | simp), rfl, rfl, rfl, rfl, trivial⟩ (by repeat constructor) ?_
      · skip
        exact ⟨by omega, rfl⟩
      · rintro ⟨i, q⟩ ⟨hi, hv⟩
        refine aSeq ?_
        refine aSeq ?_
        refine aReg ?_
        refine sp pM ?_
        refine sp pM ?_
        refine sp (by first | exact pLm sl_22 | exact pLs sl_22) ?_
        refine sp pB ?_
        refine oNil ?_
        refine aCondDec rfl (fun c15 => ?_) (fun c15 => ?_)
        · skip
          refine aSkip ?_
          refine aSeq ?_
          refine aBlock ?_
          obtain ⟨a, ha⟩ : ∃ a, l[i]? = some a := ⟨_, List.getElem?_eq_getElem (by omega)⟩
          refine aReg ?_
          refine sp pM ?_
          refine sp pM ?_
          refine oSplit 19 rfl (fun c19 => ?_) (fun c19 => ?_)
          · skip
            refine gf ?_
            refine gf ?_
            refine gf ?_
            refine gf ?_
            refine gf ?_
            refine gf ?_
            refine gf ?_
            refine sp pK ?_
            refine sp pM ?_
            refine gf ?_
            refine gf ?_
            refine gf ?_
            refine gf ?_
            refine gf ?_
            refine gf ?_
            refine gf ?_
            refine sp pK ?_
            refine sp pMa ?_
            refine oNil ?_
            refine aReg ?_
            refine sp pM ?_
            refine sp pAd ?_
            refine sp pMa ?_
            refine oNil ?_
            refine ⟨(i + 1, _), ?_, by (try dsimp only); omega, ⟨gInt rfl (by first | rfl | omega | simp), rfl, rfl, rfl, rfl, trivial⟩, _, (by repeat constructor)⟩
            refine ⟨by omega, ?_⟩
            rw [any_take24 ha, ← hv]
            clear hv
            simp_all [endP]
          · skip
            refine gp pM ?_
            refine gp pM ?_
            first | refine gp (pIx es_22) ?_ | (refine obtSN 20 21 rfl rfl (by omega) (fun x22 hx22 => ?_); refine gp (pIs es_22 hx22) ?_) | (refine obtS 20 21 rfl rfl (by omega) (by omega) (fun x22 hx22 => ?_); refine gp (pIs es_22 hx22) ?_) | refine gp (pIo es_22) ?_
            refine gp (pFs fd_36_0) ?_
            refine gr (rS1 ty_3) ?_
            refine gp pM ?_
            refine gp pB ?_
            refine sp pK ?_
            refine sp pM ?_
            refine oSplitEq 28 rfl (fun c28 => ?_) (fun c28 => ?_)
            · skip
              refine gf ?_
              refine gf ?_
              refine gf ?_
              refine gf ?_
              refine gf ?_
              refine gf ?_
              refine gf ?_
              refine sp pK ?_
              refine sp pMa ?_
              refine oNil ?_
              refine aReg ?_
              refine sp pM ?_
              refine sp pAd ?_
              refine sp pMa ?_
              refine oNil ?_
              refine ⟨(i + 1, _), ?_, by (try dsimp only); omega, ⟨gInt rfl (by first | rfl | omega | simp), rfl, rfl, rfl, rfl, trivial⟩, _, (by repeat constructor)⟩
              refine ⟨by omega, ?_⟩
              rw [any_take24 ha, ← hv]
              clear hv
              simp_all [endP]
            · skip
              refine gp pM ?_
              refine gp pM ?_
              first | refine gp (pIx es_22) ?_ | (refine obtSN 29 30 rfl rfl (by omega) (fun x31 hx31 => ?_); refine gp (pIs es_22 hx31) ?_) | (refine obtS 29 30 rfl rfl (by omega) (by omega) (fun x31 hx31 => ?_); refine gp (pIs es_22 hx31) ?_) | refine gp (pIo es_22) ?_
              refine gp (pFs fd_36_1) ?_
              refine gr (rS1 ty_3) ?_
              refine gp pM ?_
              refine gp pB ?_
              refine sp pK ?_
              refine sp pMa ?_
              refine oNil ?_
              refine aReg ?_
              refine sp pM ?_
              refine sp pAd ?_
              refine sp pMa ?_
              refine oNil ?_
              refine ⟨(i + 1, _), ?_, by (try dsimp only); omega, ⟨gInt rfl (by first | rfl | omega | simp), rfl, rfl, rfl, rfl, trivial⟩, _, (by repeat constructor)⟩
              refine ⟨by omega, ?_⟩
              rw [any_take24 ha, ← hv]
              clear hv
              simp_all [endP]
        · skip
          refine aExit rfl ?_
          refine aSeq ?_
          refine aReg ?_
          refine sp pM ?_
          refine oNil ?_
          refine aCond rfl (fun c37 => ?_) (fun c37 => ?_)
          · skip
            refine aReg ?_
            refine sp pM ?_
            refine sp pM ?_
            refine sq ?_
            refine qLit (l := [_]) rfl rfl (by decide) us_25 ty_3 ze_3 rfl (by decide) (by decide) rfl rfl rfl (fun b40 => ?_)
            have hol : out.length ≤ 1000 := by
              rw [ho]
              refine Nat.le_trans (List.length_filter_le _ _) ?_
              simp
              omega
            refine sa ?_
            refine oAppT [_] rfl rfl (by repeat constructor) (srcOwn rfl (by repeat constructor) rfl) el_25 sl_25 (fun g41 k41 => ?_)
            refine sp pMa ?_
            refine oNil ?_
            refine aReg ?_
            refine sp pM ?_
            refine sp pAd ?_
            refine sp pMa ?_
            refine oNil ?_
            refine ⟨(n + 1, _, _, _), ?_, by (try dsimp only); omega, ⟨gInt rfl (by first | rfl | omega | simp), gLen rfl (by first | rfl | simp | (simp; omega)), rfl, trivial⟩, _, (by repeat constructor)⟩
            obtain rfl : i = l.length := by omega
            rw [List.take_length] at hv
            refine ⟨by omega, ?_⟩
            rw [nodes_step (by omega), ← ho]
            first
              | (rw [if_pos (by simp_all)]; done)
              | (rw [if_neg (by simp_all), List.append_nil]; done)
          · skip
            refine aSkip ?_
            refine aReg ?_
            refine sp pM ?_
            refine sp pAd ?_
            refine sp pMa ?_
            refine oNil ?_
            refine ⟨(n + 1, _, _, _), ?_, by (try dsimp only); omega, ⟨gInt rfl (by first | rfl | omega | simp), gLen rfl (by first | rfl | simp | (simp; omega)), rfl, trivial⟩, _, (by repeat constructor)⟩
            obtain rfl : i = l.length := by omega
            rw [List.take_length] at hv
            refine ⟨by omega, ?_⟩
            rw [nodes_step (by omega), ← ho]
            first
              | (rw [if_pos (by simp_all)]; done)
              | (rw [if_neg (by simp_all), List.append_nil]; done)
    · skip
      refine aExit rfl ?_
      refine aSeq ?_
      refine aReg ?_
      refine sp pM ?_
      refine sp pMa ?_
      refine oNil ?_
      refine aRet ?_
      refine finOwn rfl ?_
      obtain rfl : n = 64 := by omega
      rw [ho]
      rfl
/- waymarkref24.Ints -/
def ref24_Ints_r6_T : Bool × List (List Nat × List Nat) := (true, [([], []), ([], []), ([0, 1], [0, 1]), ([2], [2]), ([], []), ([], []), ([4, 5], [4, 5]), ([6], [6]), ([3, 7], [3, 7])])
def ref24_Ints_r6_B : List Nat := [0, 0, 3, 7, 0, 0, 48, 112, 255]
theorem ref24_Ints_r6_t : Go.Proofs.YtmcannmjielalaaW.PrintLast.rtab .any (Go.Proofs.YtmcannmjielalaaW.PrintLast.opsOf Try.f35 6) = ref24_Ints_r6_T := by kernel_rfl
theorem ref24_Ints_r6_b : Go.Proofs.YtmcannmjielalaaW.PrintLast.waitsOk ref24_Ints_r6_T.2 ref24_Ints_r6_B = true := by kernel_rfl
set_option maxRecDepth 100000 in
set_option maxHeartbeats 400000 in
theorem ref24_Ints {a b : List Int} (ha : a.length < 9223372036854775807 := by omega) (hb : b.length < 9223372036854775807 := by omega) : Triple Try.prog 35 [.sl 1 (a.map intA), .sl 1 (b.map intA)] [] (Is (.v (.bool (decide (a = b)))) []) := by
  refine triple_of Try.func35 rfl (by kernel_rfl) rfl (by simp) ?_
  refine aSeq ?_
  refine aReg ?_
  refine sp pMa ?_
  refine oNil ?_
  refine aSeq ?_
  refine aSeq ?_
  refine aReg ?_
  refine sp pM ?_
  refine sp (by first | exact pLm sl_25 | exact pLs sl_25) ?_
  refine sp pM ?_
  refine sp (by first | exact pLm sl_25 | exact pLs sl_25) ?_
  refine sp pB ?_
  refine oNil ?_
  refine aCondNe rfl (fun c10 => ?_) (fun c10 => ?_)
  · skip
    refine aSeq ?_
    refine aReg ?_
    refine sp pMa ?_
    refine oNil ?_
    refine aRet ?_
    refine finIs rfl ?_
    rw [decide_eq_false (fun e => by subst e; simp at c10)]
    rfl
  · skip
    refine aSkip ?_
    refine aSeq ?_
    refine aSeq ?_
    refine aReg ?_
    refine sp pMa ?_
    refine oNil ?_
    refine aBlock ?_
    refine loopF (α := Nat) (kept := [(0, _), (1, _)]) (fun i => i ≤ a.length ∧ a.length = b.length ∧ a.take i = b.take i) (fun i => [(5, .int i)]) (fun i => []) (fun i => a.length - i) 0 ?_ ⟨gInt rfl (by first | rfl | omega | simp), rfl, rfl, trivial⟩ (by repeat constructor) ?_
    · skip
      exact ⟨by omega, by omega, rfl⟩
    · rintro i ⟨hi, hl, hv⟩
      refine aSeq ?_
      refine aSeq ?_
      refine aReg ?_
      refine sp pM ?_
      refine sp pM ?_
      refine sp (by first | exact pLm sl_25 | exact pLs sl_25) ?_
      refine sp pB ?_
      refine oNil ?_
      refine aCondDec rfl (fun c14 => ?_) (fun c14 => ?_)
      · skip
        refine aSkip ?_
        refine aSeq ?_
        refine aBlock ?_
        refine aSeq ?_
        refine aDrawT ref24_Ints_r6_t ref24_Ints_r6_b [] 9 #[false, false, false, false, false, false, false, false, false] (by kernel_rfl) rfl rfl (fun HT => ?_)
        refine dp HT 0 rfl pM ?_
        refine dp HT 1 rfl pM ?_
        first | refine dp HT 2 rfl (pIx es_25) ?_ | (refine obtDN 17 18 rfl rfl (by omega) (fun x19 hx19 => ?_); refine dp HT 2 rfl (pIs es_25 hx19) ?_) | (refine obtD 17 18 rfl rfl (by omega) (by omega) (fun x19 hx19 => ?_); refine dp HT 2 rfl (pIs es_25 hx19) ?_) | refine dp HT 2 rfl (pIo es_25) ?_
        refine dr HT 3 rfl (rS1 ty_3) ?_
        refine dp HT 4 rfl pM ?_
        refine dp HT 5 rfl pM ?_
        first | refine dp HT 6 rfl (pIx es_25) ?_ | (refine obtDN 21 22 rfl rfl (by omega) (fun x23 hx23 => ?_); refine dp HT 6 rfl (pIs es_25 hx23) ?_) | (refine obtD 21 22 rfl rfl (by omega) (by omega) (fun x23 hx23 => ?_); refine dp HT 6 rfl (pIs es_25 hx23) ?_) | refine dp HT 6 rfl (pIo es_25) ?_
        refine dr HT 7 rfl (rS1 ty_3) ?_
        refine dp HT 8 rfl pB ?_
        refine dE HT ?_
        clear HT
        refine aCondNe rfl (fun c25 => ?_) (fun c25 => ?_)
        · skip
          refine aSeq ?_
          refine aReg ?_
          refine sp pMa ?_
          refine oNil ?_
          refine aRet ?_
          refine finIs rfl ?_
          rw [decide_eq_false (fun e => by subst e; obtain rfl := Option.some.inj (hx19.symm.trans hx23); simp at c25)]
          rfl
        · skip
          refine aSkip ?_
          refine aReg ?_
          refine sp pM ?_
          refine sp pAd ?_
          refine sp pMa ?_
          refine oNil ?_
          refine ⟨i + 1, ?_, by (try dsimp only); omega, ⟨gInt rfl (by first | rfl | omega | simp), rfl, rfl, trivial⟩, _, (by repeat constructor)⟩
          have hxy : x19 = x23 := by assumption
          exact ⟨by omega, hl, by rw [take_step hx19, take_step hx23, hv, hxy]⟩
      · skip
        refine aExit rfl ?_
        refine aSeq ?_
        refine aReg ?_
        refine sp pMa ?_
        refine oNil ?_
        refine aRet ?_
        refine finIs rfl ?_
        rw [take_all (by omega), take_all (by omega)] at hv
        rw [decide_eq_true hv]
        rfl
end A
end Go.Proofs.Ytmcannmjielalaa
set_option linter.unusedVariables false
set_option linter.unusedSimpArgs false
namespace Go.Proofs.Ytmcannmjielalaa
namespace A
theorem st_36 : structPlaces Try.prog 36 = some [(0, 1), (1, 1), (2, 1)] := by kernel_rfl
structure Link where
  t : Int
  c : Int
  deriving DecidableEq
structure Lsa where
  o : Int
  s : Int
  ls : List Link
  deriving DecidableEq
end A
end Go.Proofs.Ytmcannmjielalaa
set_option linter.unusedVariables false
set_option linter.unusedSimpArgs false
namespace Go.Proofs.Ytmcannmjielalaa
namespace A
def farI : Int := 18446744073709551615
def addS (a b : Int) : Int := if a > farI - b then farI else a + b
theorem addS_le {a b : Int} (h : 0 ≤ a) (h2 : 0 ≤ b) : addS a b ≤ a + b := by unfold addS farI; split <;> omega
end A
end Go.Proofs.Ytmcannmjielalaa
set_option linter.unusedVariables false
set_option linter.unusedSimpArgs false
namespace Go.Proofs.Ytmcannmjielalaa
namespace A
structure Rt where
  nd : Int
  via : Int
  c : Int
  deriving DecidableEq, Inhabited
/-! ### Walks and their costs -/
inductive Wk (l : List Arc) (r : Int) : Int → Int → Prop
  | refl : Wk l r r 0
  | step {u c : Int} {a : Arc} : Wk l r u c → a ∈ l → a.f = u → Wk l r a.t (c + a.c)
theorem Wk.nn {l : List Arc} (hl : ∀ a ∈ l, AOk a) {r v c : Int} (k : Wk l r v c) : 0 ≤ c := by
  induction k with
  | refl => exact Int.le_refl _
  | step _ ha _ ih => have := hl _ ha; unfold AOk at this; omega
theorem Wk.trans {l : List Arc} {r u v c e : Int} (k : Wk l r u c) (k2 : Wk l u v e) : Wk l r v (c + e) := by
  induction k2 with
  | refl => rw [Int.add_zero]; exact k
  | step _ ha hu ih => rw [← Int.add_assoc]; exact .step ih ha hu
theorem Wk.rngR {l : List Arc} (hl : ∀ a ∈ l, AOk a) {r v c : Int} (k : Wk l r v c) : v = r ∨ (1 ≤ r ∧ r ≤ 64) := by
  induction k with
  | refl => exact .inl rfl
  | step k ha hu ih =>
    have := hl _ ha
    unfold AOk at this
    right
    rcases ih with h | h
    · omega
    · exact h
/-! ### Rounds over all arcs -/
abbrev DS := (Int → Bool) × (Int → Int)
def rlx (s : DS) (a : Arc) : DS := if s.1 a.f && (!s.1 a.t || decide (s.2 a.f + a.c < s.2 a.t)) then (updF s.1 a.t true, updF s.2 a.t (s.2 a.f + a.c)) else s
def rndD (l : List Arc) (s : DS) : DS := l.foldl rlx s
def satD (l : List Arc) : Nat → DS → DS
  | 0, s => s
  | k + 1, s => satD l k (rndD l s)
theorem satD_fix {l : List Arc} {s : DS} (h : rndD l s = s) : ∀ k, satD l k s = s
  | 0 => rfl
  | k + 1 => by rw [satD, h]; exact satD_fix h k
def ini (r : Int) : DS := (if 1 ≤ r ∧ r ≤ 64 then updF (fun _ => false) r true else fun _ => false, fun _ => 0)
def bfD (l : List Arc) (r : Int) : DS := satD l 65 (ini r)
def isF (l : List Arc) (r v : Int) : Bool := (bfD l r).1 v
def dF (l : List Arc) (r v : Int) : Int := (bfD l r).2 v
def Dom (s : DS) (v c : Int) : Prop := s.1 v = true ∧ s.2 v ≤ c
structure SInv (l : List Arc) (r : Int) (s : DS) : Prop where
  snd : ∀ v, s.1 v = true → Wk l r v (s.2 v)
  rt : s.1 r = true ∧ s.2 r = 0
theorem rlx_inv {l : List Arc} (hl : ∀ a ∈ l, AOk a) {r : Int} {s : DS} {a : Arc} (ha : a ∈ l) (I : SInv l r s) : SInv l r (rlx s a) := by
  unfold rlx
  split
  · rename_i hc
    simp only [Bool.and_eq_true, Bool.or_eq_true, Bool.not_eq_true', decide_eq_true_eq] at hc
    have hw := I.snd _ hc.1
    have hn := hw.nn hl
    have hok := hl a ha
    unfold AOk at hok
    have hr : a.t ≠ r := fun e => by
      rw [e, I.rt.1, I.rt.2] at hc
      rcases hc.2 with h | h
      · cases h
      · omega
    refine ⟨fun v hv => ?_, ?_, ?_⟩
    · by_cases e : v = a.t
      · subst e
        show Wk l r a.t (updF s.2 a.t _ a.t)
        rw [updF_same]
        exact .step hw ha rfl
      · show Wk l r v (updF s.2 a.t _ v)
        rw [updF_ne _ _ e]
        exact I.snd v (by have h2 : updF s.1 a.t true v = true := hv; rwa [updF_ne _ _ e] at h2)
    · show updF s.1 a.t true r = true
      rw [updF_ne _ _ (fun e => hr e.symm)]; exact I.rt.1
    · show updF s.2 a.t _ r = 0
      rw [updF_ne _ _ (fun e => hr e.symm)]; exact I.rt.2
  · exact I
theorem rlx_dom {s : DS} {a : Arc} {v c : Int} (h : Dom s v c) : Dom (rlx s a) v c := by
  unfold rlx
  split
  · rename_i hc
    simp only [Bool.and_eq_true, Bool.or_eq_true, Bool.not_eq_true', decide_eq_true_eq] at hc
    unfold Dom at *
    by_cases e : v = a.t
    · subst e
      simp only [updF_same]
      refine ⟨trivial, ?_⟩
      rcases hc.2 with h2 | h2
      · rw [h.1] at h2; cases h2
      · omega
    · simp only [updF_ne _ _ e]; exact h
  · exact h
theorem rlx_new {s : DS} {a : Arc} (h : s.1 a.f = true) : Dom (rlx s a) a.t (s.2 a.f + a.c) := by
  unfold rlx Dom
  split
  · simp only [updF_same]; exact ⟨trivial, Int.le_refl _⟩
  · rename_i hc
    simp only [Bool.and_eq_true, Bool.or_eq_true, Bool.not_eq_true', decide_eq_true_eq, h, true_and, not_or] at hc
    refine ⟨by simpa using hc.1, by omega⟩
theorem rnd_inv {l : List Arc} (hl : ∀ a ∈ l, AOk a) {r : Int} : ∀ {m : List Arc} {s : DS}, (∀ a ∈ m, a ∈ l) → SInv l r s → SInv l r (rndD m s)
  | [], s, _, I => I
  | a :: m, s, h, I => rnd_inv hl (m := m) (fun b hb => h b (by simp [hb])) (rlx_inv hl (h a (by simp)) I)
theorem rnd_dom {v c : Int} : ∀ {m : List Arc} {s : DS}, Dom s v c → Dom (rndD m s) v c
  | [], _, h => h
  | a :: m, s, h => rnd_dom (m := m) (rlx_dom h)
/-- What is known of a node is the least. -/
def Lst (l : List Arc) (r : Int) (s : DS) (v : Int) : Prop := s.1 v = true ∧ ∀ c, Wk l r v c → s.2 v ≤ c
theorem Lst.dom {l : List Arc} {r : Int} {s : DS} {v c : Int} (h : Lst l r s v) (k : Wk l r v c) : Dom s v c := ⟨h.1, h.2 c k⟩
theorem lst_of {l : List Arc} {r : Int} {s : DS} {v c : Int} (h : Dom s v c) (hm : ∀ e, Wk l r v e → c ≤ e) : Lst l r s v := ⟨h.1, fun e k => by have := hm e k; have := h.2; omega⟩
theorem rnd_lst {l : List Arc} (hl : ∀ a ∈ l, AOk a) {r u : Int} {s : DS} {m : List Arc} (hm : ∀ a ∈ m, a ∈ l) (I : SInv l r s) (h : Lst l r s u) : Lst l r (rndD m s) u :=
  lst_of (rnd_dom (m := m) ⟨h.1, Int.le_refl _⟩) h.2
theorem rnd_new {l : List Arc} (hl : ∀ a ∈ l, AOk a) {r : Int} {a : Arc} : ∀ {m : List Arc} {s : DS}, (∀ b ∈ m, b ∈ l) → SInv l r s → Lst l r s a.f → a ∈ m → Dom (rndD m s) a.t (s.2 a.f + a.c)
  | [], _, _, _, _, h => by simp at h
  | x :: m, s, hm, I, hf, h => by
    have I' := rlx_inv hl (hm x (by simp)) I
    have hf' : Lst l r (rlx s x) a.f := lst_of (rlx_dom ⟨hf.1, Int.le_refl _⟩) hf.2
    have he : (rlx s x).2 a.f = s.2 a.f := by
      have h1 := hf'.2 _ (I.snd _ hf.1)
      have h2 := hf.2 _ (I'.snd _ hf'.1)
      omega
    rcases List.mem_cons.1 h with rfl | h
    · exact rnd_dom (m := m) (rlx_new hf.1)
    · have := rnd_new hl (m := m) (s := rlx s x) (fun b hb => hm b (by simp [hb])) I' hf' h
      rwa [he] at this
/-- The least cost there is. -/
theorem least_int {p : Int → Prop} {c : Int} (h0 : ∀ c, p c → 0 ≤ c) (h : p c) : ∃ c, p c ∧ ∀ e, p e → c ≤ e := by
  have : ∀ (n : Nat) (c : Int), c.toNat ≤ n → p c → ∃ c, p c ∧ ∀ e, p e → c ≤ e := fun n => by
    induction n with
    | zero => intro c hc hp; exact ⟨c, hp, fun e he => by have := h0 e he; have := h0 c hp; omega⟩
    | succ n ih =>
      intro c hc hp
      by_cases hs : ∃ e, p e ∧ e < c
      · obtain ⟨e, he, hlt⟩ := hs
        exact ih e (by have := h0 e he; omega) he
      · exact ⟨c, hp, fun e he => by
          apply Classical.byContradiction
          intro hn
          exact hs ⟨e, he, by omega⟩⟩
  exact this c.toNat c (Nat.le_refl _) h
theorem sat_prog {l : List Arc} (hl : ∀ a ∈ l, AOk a) {r : Int} (h0 : 1 ≤ r) (h1 : r ≤ 64) : ∀ (k : Nat) (s : DS), SInv l r s → ∀ L : List Int, L.Nodup → (∀ u ∈ L, 0 ≤ u ∧ u < 65 ∧ Lst l r s u) → 65 < L.length + k → SInv l r (satD l k s) ∧ ∀ v c, Wk l r v c → Dom (satD l k s) v c
  | 0, s, I, L, hn, hL, hk => by
    have := nodup_len hn (n := 65) (fun x hx => ⟨(hL x hx).1, by have := (hL x hx).2.1; omega⟩)
    omega
  | k + 1, s, I, L, hn, hL, hk => by
    have I' := rnd_inv hl (m := l) (fun a ha => ha) I
    by_cases hd : ∀ v c, Wk l r v c → Dom s v c
    · have hdk : ∀ (j : Nat) (s : DS), SInv l r s → (∀ v c, Wk l r v c → Dom s v c) → SInv l r (satD l j s) ∧ ∀ v c, Wk l r v c → Dom (satD l j s) v c := fun j => by
        induction j with
        | zero => intro s I h; exact ⟨I, h⟩
        | succ j ih => intro s I h; exact ih _ (rnd_inv hl (m := l) (fun a ha => ha) I) (fun v c k => rnd_dom (m := l) (h v c k))
      exact hdk (k + 1) s I hd
    · obtain ⟨c, ⟨v, hk1, hk2⟩, hmin⟩ : ∃ c, (∃ v, Wk l r v c ∧ ¬ Lst l r s v) ∧ ∀ e, (∃ v, Wk l r v e ∧ ¬ Lst l r s v) → c ≤ e := by
        simp only [Classical.not_forall] at hd
        obtain ⟨v, c, k, hnd⟩ := hd
        exact least_int (p := fun c => ∃ v, Wk l r v c ∧ ¬ Lst l r s v) (fun c ⟨v, k, _⟩ => k.nn hl) ⟨v, k, fun h => hnd (h.dom k)⟩
      cases hk1 with
      | refl => exact absurd ⟨I.rt.1, fun e k => by rw [I.rt.2]; exact k.nn hl⟩ hk2
      | @step u e a hu ha hf =>
        have hok := hl a ha
        unfold AOk at hok
        have hlu : Lst l r s u := Classical.byContradiction fun h => by
          have := hmin e ⟨u, hu, h⟩
          omega
        have hlt : Lst l r (rndD l s) a.t := by
          refine lst_of (c := s.2 a.f + a.c) (rnd_new hl (fun b hb => hb) I (by rw [hf]; exact hlu) ha) (fun e' k' => ?_)
          have h2 := hmin e' ⟨a.t, k', hk2⟩
          have h3 := hlu.2 e hu
          rw [hf]
          omega
        refine sat_prog hl h0 h1 k (rndD l s) I' (a.t :: L) (List.nodup_cons.2 ⟨fun h => hk2 (hL _ h).2.2, hn⟩) (fun x hx => ?_) (by simp; omega)
        rcases List.mem_cons.1 hx with rfl | hx
        · exact ⟨by omega, by omega, hlt⟩
        · obtain ⟨a1, a2, a3⟩ := hL x hx
          exact ⟨a1, a2, rnd_lst hl (fun b hb => hb) I a3⟩
theorem bf_all {l : List Arc} (hl : ∀ a ∈ l, AOk a) {r : Int} (h0 : 1 ≤ r) (h1 : r ≤ 64) : SInv l r (bfD l r) ∧ ∀ v c, Wk l r v c → Dom (bfD l r) v c := by
  have I : SInv l r (ini r) := by
    unfold ini
    rw [if_pos ⟨h0, h1⟩]
    refine ⟨fun v hv => ?_, by simp [updF], rfl⟩
    by_cases e : v = r
    · subst e; exact .refl
    · have h2 : updF (fun _ => false) r true v = true := hv
      rw [updF_ne _ _ e] at h2; cases h2
  exact sat_prog hl h0 h1 65 (ini r) I [r] (by simp) (fun u hu => by rw [List.mem_singleton.1 hu]; exact ⟨by omega, by omega, I.rt.1, fun c k => by rw [I.rt.2]; exact k.nn hl⟩) (by simp)
theorem isF_none {l : List Arc} (hl : ∀ a ∈ l, AOk a) {r : Int} (h : ¬ (1 ≤ r ∧ r ≤ 64)) (v : Int) : isF l r v = false := by
  have : ∀ (m : List Arc) (s : DS), s.1 = (fun _ => false) → (rndD m s).1 = fun _ => false := fun m => by
    induction m with
    | nil => intro s h; exact h
    | cons a m ih => intro s h; refine ih _ ?_; unfold rlx; rw [h]; simpa using h
  have : ∀ (k : Nat) (s : DS), s.1 = (fun _ => false) → (satD l k s).1 = fun _ => false := fun k => by
    induction k with
    | zero => intro s h; exact h
    | succ k ih => intro s h; exact ih _ (this l s h)
  unfold isF bfD
  rw [this 65 (ini r) (by unfold ini; rw [if_neg h])]
theorem isF_wk {l : List Arc} (hl : ∀ a ∈ l, AOk a) {r v : Int} (h : isF l r v = true) : Wk l r v (dF l r v) := by
  by_cases hr : 1 ≤ r ∧ r ≤ 64
  · exact (bf_all hl hr.1 hr.2).1.snd v h
  · rw [isF_none hl hr] at h; cases h
theorem wk_isF {l : List Arc} (hl : ∀ a ∈ l, AOk a) {r v c : Int} (hr : 1 ≤ r ∧ r ≤ 64 ∨ v ≠ r) (k : Wk l r v c) : isF l r v = true ∧ dF l r v ≤ c := by
  have hr : 1 ≤ r ∧ r ≤ 64 := by
    rcases hr with hr | hr
    · exact hr
    · rcases k.rngR hl with h | h
      · exact absurd h hr
      · exact h
  exact (bf_all hl hr.1 hr.2).2 v c k
/-- Costs are not too great. -/
def Bd (k : Nat) (s : DS) : Prop := ∀ v, 0 ≤ s.2 v ∧ s.2 v ≤ 1073741824 * (k : Int)
theorem rlx_bd {k : Nat} {s : DS} {a : Arc} (ha : AOk a) (h : Bd k s) : Bd (k + 1) (rlx s a) := by
  intro v
  have h1 := h v
  have h2 := h a.f
  unfold AOk at ha
  unfold rlx
  split
  · show 0 ≤ updF s.2 a.t _ v ∧ updF s.2 a.t _ v ≤ _
    unfold updF
    split <;> omega
  · omega
theorem rnd_bd : ∀ {m : List Arc} {k : Nat} {s : DS}, (∀ a ∈ m, AOk a) → Bd k s → Bd (k + m.length) (rndD m s)
  | [], _, _, _, h => h
  | a :: m, k, s, hm, h => by
    have := rnd_bd (m := m) (fun b hb => hm b (by simp [hb])) (rlx_bd (hm a (by simp)) h)
    rw [List.length_cons, show k + (m.length + 1) = k + 1 + m.length by omega]
    exact this
theorem sat_bd {l : List Arc} (hl : ∀ a ∈ l, AOk a) : ∀ (j : Nat) {k : Nat} {s : DS}, Bd k s → Bd (k + j * l.length) (satD l j s)
  | 0, k, s, h => by rw [Nat.zero_mul]; exact h
  | j + 1, k, s, h => by
    have := sat_bd hl j (rnd_bd hl h)
    rw [Nat.add_mul, Nat.one_mul, show k + (j * l.length + l.length) = k + l.length + j * l.length by omega]
    exact this
theorem dF_range {l : List Arc} (hl : ∀ a ∈ l, AOk a) (hll : l.length ≤ 1000000) (r v : Int) : 0 ≤ dF l r v ∧ dF l r v ≤ 69793218560000000 := by
  have h := sat_bd hl 65 (k := 0) (s := ini r) (fun v => ⟨Int.le_refl _, Int.le_refl _⟩) v
  unfold dF bfD
  omega
end A
end Go.Proofs.Ytmcannmjielalaa
set_option linter.unusedVariables false
set_option linter.unusedSimpArgs false
namespace Go.Proofs.Ytmcannmjielalaa
namespace A
theorem ty_37 : tyOf Try.prog 37 = some (1, false) := by kernel_rfl
/- cost.Far -/
set_option maxRecDepth 100000 in
set_option maxHeartbeats 400000 in
theorem cost_Far  : Triple Try.prog 226 [] [] (Is (.v (.int .u64 18446744073709551615)) []) := by
  refine triple_of Try.func226 rfl (by kernel_rfl) rfl (by simp) ?_
  refine aSeq ?_
  refine aReg ?_
  refine sp pMa ?_
  refine oNil ?_
  refine aSeq ?_
  refine aReg ?_
  refine sp pMa ?_
  refine oNil ?_
  refine aRet ?_
  refine finIs rfl ?_
  rfl
/- cost.Add -/
set_option maxRecDepth 100000 in
set_option maxHeartbeats 400000 in
theorem cost_Add {a b : Int} (ha : 0 ≤ a) (hb : 0 ≤ b) (ha2 : a ≤ 18446744073709551615) (hb2 : b ≤ 18446744073709551615) : Triple Try.prog 135 [.v (.int .u64 a), .v (.int .u64 b)] [] (Is (.v (.int .u64 (if a > 18446744073709551615 - b then 18446744073709551615 else a + b))) []) := by
  refine triple_of Try.func135 rfl (by kernel_rfl) rfl (by simp) ?_
  refine aSeq ?_
  refine aReg ?_
  refine sp pMa ?_
  refine oNil ?_
  refine aSeq ?_
  refine aSeq ?_
  refine aReg ?_
  refine sp pM ?_
  refine sq ?_
  refine cv rfl rfl rfl (lents_refl _) cost_Far ?_
  refine sp pM ?_
  refine sp (by first | exact pSuK | exact pB) ?_
  refine sp pB ?_
  refine oNil ?_
  refine aCondDec rfl (fun c9 => ?_) (fun c9 => ?_)
  · skip
    refine aSeq ?_
    refine aReg ?_
    refine sq ?_
    refine cv rfl rfl rfl (lents_refl _) cost_Far ?_
    refine sp pMa ?_
    refine oNil ?_
    refine aRet ?_
    refine finIs rfl ?_
    rw [if_pos (by assumption)]
    rfl
  · skip
    refine aSkip ?_
    refine aSeq ?_
    refine aReg ?_
    refine sp pM ?_
    refine sp pM ?_
    refine sp (by first | exact pAdK | exact pB) ?_
    refine sp pMa ?_
    refine oNil ?_
    refine aRet ?_
    refine finIs rfl ?_
    rw [if_neg (by assumption)]
    rfl
end A
end Go.Proofs.Ytmcannmjielalaa
set_option linter.unusedVariables false
set_option linter.unusedSimpArgs false
namespace Go.Proofs.Ytmcannmjielalaa
namespace A
theorem ar_169 : arrOf Try.prog 169 = some (65, 1) := by kernel_rfl
theorem ar_170 : arrOf Try.prog 170 = some (65, 1) := by kernel_rfl
theorem fd_172_0 : fieldOf Try.prog 172 0 = some (0, 65, true) := by kernel_rfl
theorem fd_172_1 : fieldOf Try.prog 172 1 = some (65, 65, true) := by kernel_rfl
theorem ik_3 : intKindOf Try.prog 3 = some .i64 := by kernel_rfl
theorem ik_37 : intKindOf Try.prog 37 = some .u64 := by kernel_rfl
theorem st_172 : structPlaces Try.prog 172 = some [(0, 65), (65, 65)] := by kernel_rfl
theorem ty_172 : tyOf Try.prog 172 = some (130, true) := by kernel_rfl
theorem ty_4 : tyOf Try.prog 4 = some (1, false) := by kernel_rfl
theorem ze_172 : zeroOf Try.prog 172 = some (.agg #[.int .u64 0, .int .u64 0, .int .u64 0, .int .u64 0, .int .u64 0, .int .u64 0, .int .u64 0, .int .u64 0, .int .u64 0, .int .u64 0, .int .u64 0, .int .u64 0, .int .u64 0, .int .u64 0, .int .u64 0, .int .u64 0, .int .u64 0, .int .u64 0, .int .u64 0, .int .u64 0, .int .u64 0, .int .u64 0, .int .u64 0, .int .u64 0, .int .u64 0, .int .u64 0, .int .u64 0, .int .u64 0, .int .u64 0, .int .u64 0, .int .u64 0, .int .u64 0, .int .u64 0, .int .u64 0, .int .u64 0, .int .u64 0, .int .u64 0, .int .u64 0, .int .u64 0, .int .u64 0, .int .u64 0, .int .u64 0, .int .u64 0, .int .u64 0, .int .u64 0, .int .u64 0, .int .u64 0, .int .u64 0, .int .u64 0, .int .u64 0, .int .u64 0, .int .u64 0, .int .u64 0, .int .u64 0, .int .u64 0, .int .u64 0, .int .u64 0, .int .u64 0, .int .u64 0, .int .u64 0, .int .u64 0, .int .u64 0, .int .u64 0, .int .u64 0, .int .u64 0, .bool false, .bool false, .bool false, .bool false, .bool false, .bool false, .bool false, .bool false, .bool false, .bool false, .bool false, .bool false, .bool false, .bool false, .bool false, .bool false, .bool false, .bool false, .bool false, .bool false, .bool false, .bool false, .bool false, .bool false, .bool false, .bool false, .bool false, .bool false, .bool false, .bool false, .bool false, .bool false, .bool false, .bool false, .bool false, .bool false, .bool false, .bool false, .bool false, .bool false, .bool false, .bool false, .bool false, .bool false, .bool false, .bool false, .bool false, .bool false, .bool false, .bool false, .bool false, .bool false, .bool false, .bool false, .bool false, .bool false, .bool false, .bool false, .bool false, .bool false, .bool false, .bool false, .bool false, .bool false, .bool false]) := by kernel_rfl
def distC (s : DS) : List AV := arrF 65 (fun x => [u64A x]) s.2 ++ arrF 65 (fun x => [boA x]) s.1
theorem distC_len2 (f : Int → Bool) (d : Int → Int) : (arrF 65 (fun x => [u64A x]) d ++ arrF 65 (fun x => [boA x]) f).length = 130 := by rw [List.length_append, arrF_len one_len, arrF_len one_len]
theorem distC_len (s : DS) : (distC s).length = 130 := distC_len2 s.1 s.2
theorem distC_one (s : DS) : oneOf (.agg (distC s)) = true := by rfl
theorem rnd_none {l : List Arc} {s : DS} (h : s.1 = fun _ => false) : rndD l s = s := by
  have key : ∀ (m : List Arc), m.foldl rlx s = s := fun m => by
    induction m with
    | nil => rfl
    | cons a m ih => rw [List.foldl_cons, show rlx s a = s by unfold rlx; rw [h]; simp]; exact ih
  exact key l
theorem add_far {a b : Int} (h : a + b ≤ 18446744073709551615) : addS a b = a + b := by unfold addS farI; rw [if_neg (by omega)]
/- waymarkref22.Add -/
set_option maxRecDepth 100000 in
set_option maxHeartbeats 1000000 in
theorem ref22_Add {a b : Int} (ha : 0 ≤ a) (hb : 0 ≤ b) (ha2 : a ≤ 18446744073709551615) (hb2 : b ≤ 18446744073709551615) : Triple Try.prog 47 [.v (.int .u64 a), .v (.int .u64 b)] [] (Is (.v (.int .u64 (addS a b))) []) := by
  have e1 : a.tmod 4294967296 = a % 4294967296 := Int.tmod_eq_emod_of_nonneg ha
  have e2 : b.tmod 4294967296 = b % 4294967296 := Int.tmod_eq_emod_of_nonneg hb
  have e3 : a.tdiv 4294967296 = a / 4294967296 := Int.tdiv_eq_ediv_of_nonneg ha
  have e4 : b.tdiv 4294967296 = b / 4294967296 := Int.tdiv_eq_ediv_of_nonneg hb
  refine triple_of Try.func47 rfl (by kernel_rfl) rfl (by simp) ?_
  refine aSeq ?_
  refine aReg ?_
  refine sp pMa ?_
  refine oNil ?_
  refine aSeq ?_
  refine aReg ?_
  refine sp pM ?_
  refine sp (pRem rfl rfl rfl (by first | decide | omega)) ?_
  rw [e1]
  refine sp pM ?_
  refine sp (pRem rfl rfl rfl (by first | decide | omega)) ?_
  rw [e2]
  refine sp (by first | exact pAdK | exact pB) ?_
  refine sp pMa ?_
  refine oNil ?_
  refine aSeq ?_
  refine aReg ?_
  refine sp pM ?_
  refine sp (pQuo rfl rfl rfl (by first | decide | omega)) ?_
  rw [e3, wrap_u64 (by omega) (by omega)]
  refine sp pM ?_
  refine sp (pQuo rfl rfl rfl (by first | decide | omega)) ?_
  rw [e4, wrap_u64 (by omega) (by omega)]
  refine sp (by first | exact pAdK | exact pB) ?_
  refine sp pM ?_
  refine sp (pQuo rfl rfl rfl (by first | decide | omega)) ?_
  rw [Int.tdiv_eq_ediv_of_nonneg (by omega), wrap_u64 (by omega) (by omega)]
  refine sp (by first | exact pAdK | exact pB) ?_
  refine sp pMa ?_
  refine oNil ?_
  refine aSeq ?_
  refine aSeq ?_
  refine aReg ?_
  refine sp pM ?_
  refine sp pB ?_
  refine oNil ?_
  refine aCondDec rfl (fun c21 => ?_) (fun c21 => ?_)
  · skip
    refine aSeq ?_
    refine aReg ?_
    refine sp pMa ?_
    refine oNil ?_
    refine aRet ?_
    refine finIs rfl ?_
    show AV.v _ = AV.v _
    unfold addS farI
    rw [if_pos (by omega)]
  · skip
    refine aSkip ?_
    refine aSeq ?_
    refine aReg ?_
    refine sp pM ?_
    refine sp (by first | exact pMuK | exact pB) ?_
    refine sp pM ?_
    refine sp (pRem rfl rfl rfl (by first | decide | omega)) ?_
    rw [Int.tmod_eq_emod_of_nonneg (by omega)]
    refine sp (by first | exact pAdK | exact pB) ?_
    refine sp pMa ?_
    refine oNil ?_
    refine aRet ?_
    refine finIs rfl ?_
    show AV.v _ = AV.v _
    unfold addS farI
    rw [if_neg (by omega)]
    congr 2
    omega
/- waymarkref25.From -/
def ref25_From_r13_T : Bool × List (List Nat × List Nat) := (true, [([], []), ([0], [0]), ([], []), ([2, 1], [1, 2]), ([3], [3]), ([], []), ([5], [5]), ([6], [6]), ([4, 7], [4, 7]), ([8, 8, 0, 1, 2, 3, 4, 5, 6, 7, 8], [8])])
def ref25_From_r13_B : List Nat := [0, 1, 0, 7, 15, 0, 32, 96, 255, 511]
theorem ref25_From_r13_t : Go.Proofs.YtmcannmjielalaaW.PrintLast.rtab .any (Go.Proofs.YtmcannmjielalaaW.PrintLast.opsOf Try.f129 13) = ref25_From_r13_T := by kernel_rfl
theorem ref25_From_r13_b : Go.Proofs.YtmcannmjielalaaW.PrintLast.waitsOk ref25_From_r13_T.2 ref25_From_r13_B = true := by kernel_rfl
set_option maxRecDepth 100000 in
set_option maxHeartbeats 2000000 in
theorem ref25_From {l : List Arc} {r : Int} (hl : l.length ≤ 1000000) (hok : ∀ a ∈ l, AOk a) : Triple Try.prog 129 [.sl 3 (l.map arcC), .int r] [] (Is (.agg (distC (bfD l r))) []) := by
  refine triple_ofR Try.func129 rfl (by kernel_rfl) rfl (by simp) ?_
  refine aSeq ?_
  refine aReg ?_
  refine sq ?_
  refine qAlloc rfl rfl (by decide) ze_172 rfl (fun b4 => ?_)
  refine oNil ?_
  refine aSeq ?_
  refine aReg ?_
  refine sp (pBuild rfl st_172 ze_172 rfl rfl rfl rfl) ?_
  refine sq ?_
  refine qAlloc rfl rfl (by decide) ze_172 rfl (fun b5 => ?_)
  refine sa ?_
  refine oStW rfl rfl rfl rfl (by repeat constructor) ty_172 ?_
  refine oNil ?_
  refine aSeq ?_
  refine aSeq ?_
  refine aWeak (weak_box (b := b5) (cs' := arrF 65 (fun x => [u64A x]) (fun _ => 0) ++ arrF 65 (fun x => [boA x]) (fun _ => false)) (by repeat constructor) (by kernel_rfl)) ?_
  refine aReg ?_
  refine sp pM ?_
  refine sp pB ?_
  refine sp pM ?_
  refine oSplitDec 14 rfl (fun c14 => ?_) (fun c14 => ?_)
  · skip
    refine gf ?_
    refine gf ?_
    refine sp pK ?_
    refine oNil ?_
    refine aCondT rfl ?_
    refine aSeq ?_
    refine aReg ?_
    refine sr (rBW ty_172 (hn := distC_len2 _ _)) ?_
    refine sa ?_
    refine oStW (av := .agg (arrF 65 (fun x => [u64A x]) _ ++ arrF 65 (fun x => [boA x]) _)) (hn := distC_len2 _ _) rfl rfl rfl rfl (by repeat constructor) ty_172 ?_
    refine oNil ?_
    refine aRet ?_
    refine finRIs (l := [.agg (arrF 65 (fun x => [u64A x]) (fun _ => 0) ++ arrF 65 (fun x => [boA x]) (fun _ => false))]) (.cons (.cellA rfl (by repeat (first | exact List.mem_cons_self | apply List.mem_cons_of_mem)) (by rw [distC_len2]; exact ty_172)) .nil) ?_
    have hno : bfD l r = (fun _ => false, fun _ => 0) := by
      unfold bfD
      rw [satD_fix]
      · unfold ini; rw [if_neg (by omega)]
      · exact rnd_none (by unfold ini; rw [if_neg (by omega)])
    rw [hno]
    rfl
  · skip
    refine gp pM ?_
    refine gp pB ?_
    refine sp pK ?_
    refine oNil ?_
    refine aCondDec rfl (fun c17 => ?_) (fun c17 => ?_)
    · skip
      refine aSeq ?_
      refine aReg ?_
      refine sr (rBW ty_172 (hn := distC_len2 _ _)) ?_
      refine sa ?_
      refine oStW (av := .agg (arrF 65 (fun x => [u64A x]) _ ++ arrF 65 (fun x => [boA x]) _)) (hn := distC_len2 _ _) rfl rfl rfl rfl (by repeat constructor) ty_172 ?_
      refine oNil ?_
      refine aRet ?_
      refine finRIs (l := [.agg (arrF 65 (fun x => [u64A x]) (fun _ => 0) ++ arrF 65 (fun x => [boA x]) (fun _ => false))]) (.cons (.cellA rfl (by repeat (first | exact List.mem_cons_self | apply List.mem_cons_of_mem)) (by rw [distC_len2]; exact ty_172)) .nil) ?_
      have hno : bfD l r = (fun _ => false, fun _ => 0) := by
        unfold bfD
        rw [satD_fix]
        · unfold ini; rw [if_neg (by omega)]
        · exact rnd_none (by unfold ini; rw [if_neg (by omega)])
      rw [hno]
      rfl
    · skip
      refine aSkip ?_
      refine aSeq ?_
      refine aReg ?_
      refine sp pM ?_
      refine sp (pFb fd_172_1) ?_
      refine sp (pIa ar_170) ?_
      refine sa ?_
      first | refine oAr rfl rfl rfl (by repeat constructor) ty_4 ?_ | refine oArL rfl rfl rfl (by repeat constructor) ty_4 ?_ | refine oArR rfl rfl rfl (by repeat constructor) (by first | rfl | exact arrF_len one_len) ty_4 ?_ | refine oStB rfl rfl rfl rfl (by repeat constructor) ty_4 rfl (Nat.le_of_ble_eq_true rfl) rfl ?_
      refine oNil ?_
      refine aSeq ?_
      refine aSeq ?_
      refine aReg ?_
      refine sp pMa ?_
      refine oNil ?_
      refine aBlock ?_
      refine loopF (α := Nat × (Int → Int) × (Int → Bool)) (kept := [(0, _), (4, _), (5, _)]) (fun (q, d, f) => q ≤ 65 ∧ satD l (65 - q) (f, d) = bfD l r ∧ Bd (q * l.length) (f, d)) (fun (q, d, f) => [(6, .int q)]) (fun (q, d, f) => [.box b5 (arrF 65 (fun x => [u64A x]) d ++ arrF 65 (fun x => [boA x]) f)]) (fun (q, d, f) => 65 - q) (0, fun _ => 0, updF (fun _ => false) r true) ?_ ⟨gInt rfl (by first | rfl | omega | simp), rfl, rfl, rfl, trivial⟩ (by repeat constructor) ?_
      · skip
        exact ⟨by omega, by show _ = satD l 65 (ini r); unfold ini; rw [if_pos (by omega)], fun v => ⟨Int.le_refl _, by simp⟩⟩
      · rintro ⟨q, d, f⟩ ⟨hq, hsat, hbd0⟩
        refine aSeq ?_
        refine aSeq ?_
        refine aReg ?_
        refine sp pM ?_
        refine sp pB ?_
        refine oNil ?_
        refine aCondDec rfl (fun c23 => ?_) (fun c23 => ?_)
        · skip
          refine aSkip ?_
          refine aSeq ?_
          refine aBlock ?_
          refine aSeq ?_
          refine aReg ?_
          refine sp pMa ?_
          refine oNil ?_
          refine aSeq ?_
          refine aSeq ?_
          refine aReg ?_
          refine sp pMa ?_
          refine oNil ?_
          refine aBlock ?_
          refine loopF (α := Nat × (Int → Int) × (Int → Bool) × Bool) (kept := [(0, _), (4, _), (5, _), (6, _)]) (fun (i, e', g', t) => i ≤ l.length ∧ (l.drop i).foldl rlx (g', e') = rndD l (f, d) ∧ (t = false → (g', e') = (f, d)) ∧ Bd (q * l.length + i) (g', e')) (fun (i, e', g', t) => [(8, .int i), (7, .v (.bool t))]) (fun (i, e', g', t) => [.box b5 (arrF 65 (fun x => [u64A x]) e' ++ arrF 65 (fun x => [boA x]) g')]) (fun (i, e', g', t) => l.length - i) (0, d, f, false) ?_ ⟨gInt rfl (by first | rfl | omega | simp), rfl, rfl, rfl, rfl, rfl, trivial⟩ (by repeat constructor) ?_
          · skip
            exact ⟨by omega, rfl, fun _ => rfl, hbd0⟩
          · rintro ⟨i, e', g', t⟩ ⟨hi, hv, hch, hbd⟩
            refine aSeq ?_
            refine aSeq ?_
            refine aReg ?_
            refine sp pM ?_
            refine sp pM ?_
            refine sp (by first | exact pLm sl_22 | exact pLs sl_22) ?_
            refine sp pB ?_
            refine oNil ?_
            refine aCondDec rfl (fun c29 => ?_) (fun c29 => ?_)
            · skip
              refine aSkip ?_
              refine aSeq ?_
              refine aBlock ?_
              refine aSeq ?_
              obtain ⟨x, hx⟩ : ∃ a, l[i]? = some a := ⟨_, List.getElem?_eq_getElem (by omega)⟩
              have hxk := hok x (List.mem_of_getElem? hx)
              unfold AOk at hxk
              have hbx := hbd x.f
              simp only at hbx
              have hqi : q * l.length + i ≤ 66000000 := by have := Nat.mul_le_mul_right l.length (show q ≤ 64 by omega); omega
              refine aReg ?_
              refine sp pM ?_
              refine sp pM ?_
              first | refine sp (pIx es_22) ?_ | (refine obtSN 32 33 rfl rfl (by omega) (fun x34 hx34 => ?_); refine sp (pIs es_22 hx34) ?_) | (refine obtS 32 33 rfl rfl (by omega) (by omega) (fun x34 hx34 => ?_); refine sp (pIs es_22 hx34) ?_) | refine sp (pIo es_22) ?_
              refine sr (by first | exact rSW ty_36 rfl | exact rSA ty_36) ?_
              refine sq ?_
              refine qAlloc rfl rfl (by decide) ze_36 rfl (fun b9 => ?_)
              refine sa ?_
              refine oStW rfl rfl rfl rfl (by repeat constructor) ty_36 ?_
              refine oNil ?_
              refine aSeq ?_
              refine aDrawT ref25_From_r13_t ref25_From_r13_b [] 10 #[false, false, false, false, false, false, false, false, false, false] (by kernel_rfl) rfl rfl (fun HT => ?_)
              refine dp HT 0 rfl (pFb fd_36_0) ?_
              refine dr HT 1 rfl (rB1 ty_3) ?_
              refine dp HT 2 rfl (pFb fd_172_0) ?_
              refine dp HT 3 rfl (pIa ar_169) ?_
              refine dr HT 4 rfl (by first | exact rAr ty_37 | exact rArL ty_37 | exact rArR2 ty_37 | exact rB1 ty_37) ?_
              refine dp HT 5 rfl (pFb fd_36_2) ?_
              refine dr HT 6 rfl (rB1 ty_3) ?_
              refine dp HT 7 rfl (by first | exact pCvK ik_3 ik_37 | exact pConv rfl rfl ik_3 ik_37 rfl) ?_
              refine dGo ?_
              refine e1 HT 8 rfl ?_
              refine cv rfl rfl rfl (lents_refl _) (ref22_Add (by omega) (by omega) (by omega) (by omega)) ?_
              rw [add_far (by omega)]
              refine ef HT 9 rfl pMa ?_
              refine eE HT ?_
              clear HT
              refine aSeq ?_
              refine aReg ?_
              refine sp (pFb fd_36_0) ?_
              refine sr (rB1 ty_3) ?_
              refine sp (pFb fd_172_1) ?_
              refine sp (pIa ar_170) ?_
              refine sr (by first | exact rAr ty_4 | exact rArL ty_4 | exact rArR2 ty_4 | exact rB1 ty_4) ?_
              refine sp pM ?_
              refine oSplit 50 rfl (fun c50 => ?_) (fun c50 => ?_)
              · skip
                refine gp (pFb fd_36_1) ?_
                refine gr (rB1 ty_3) ?_
                refine gp (pFb fd_172_1) ?_
                refine gp (pIa ar_170) ?_
                refine gr (by first | exact rAr ty_4 | exact rArL ty_4 | exact rArR2 ty_4 | exact rB1 ty_4) ?_
                refine gp pNo ?_
                refine gp pM ?_
                refine oSplitNot 57 rfl (fun c57 => ?_) (fun c57 => ?_)
                · skip
                  refine gf ?_
                  refine gf ?_
                  refine gf ?_
                  refine gf ?_
                  refine gf ?_
                  refine gf ?_
                  refine gf ?_
                  refine gp pK ?_
                  refine sp pK ?_
                  refine oNil ?_
                  refine aCondT rfl ?_
                  refine aSeq ?_
                  refine aReg ?_
                  refine sp (pFb fd_36_1) ?_
                  refine sr (rB1 ty_3) ?_
                  refine sp (pFb fd_172_1) ?_
                  refine sp (pIa ar_170) ?_
                  refine sa ?_
                  first | refine oAr rfl rfl rfl (by repeat constructor) ty_4 ?_ | refine oArL rfl rfl rfl (by repeat constructor) ty_4 ?_ | refine oArR rfl rfl rfl (by repeat constructor) (by first | rfl | exact arrF_len one_len) ty_4 ?_ | refine oStB rfl rfl rfl rfl (by repeat constructor) ty_4 rfl (Nat.le_of_ble_eq_true rfl) rfl ?_
                  refine oNil ?_
                  refine aSeq ?_
                  refine aReg ?_
                  refine sp (pFb fd_36_1) ?_
                  refine sr (rB1 ty_3) ?_
                  refine sp pM ?_
                  refine sp (pFb fd_172_0) ?_
                  refine sp (pIa ar_169) ?_
                  refine sa ?_
                  first | refine oAr rfl rfl rfl (by repeat constructor) ty_37 ?_ | refine oArL rfl rfl rfl (by repeat constructor) ty_37 ?_ | refine oArR rfl rfl rfl (by repeat constructor) (by first | rfl | exact arrF_len one_len) ty_37 ?_ | refine oStB rfl rfl rfl rfl (by repeat constructor) ty_37 rfl (Nat.le_of_ble_eq_true rfl) rfl ?_
                  refine oNil ?_
                  refine aReg ?_
                  refine sp pMa ?_
                  refine oNil ?_
                  refine aReg ?_
                  refine sp pM ?_
                  refine sp pAd ?_
                  refine sp pMa ?_
                  refine oNil ?_
                  refine ⟨(i + 1, _, _, _), ?_, by (try dsimp only); omega, ⟨gInt rfl (by first | rfl | omega | simp), rfl, rfl, rfl, rfl, rfl, trivial⟩, _, (by repeat constructor)⟩
                  rw [drop_step hx, List.foldl_cons] at hv
                  have hb1 := rlx_bd (a := x) (by unfold AOk; omega) hbd
                  rw [show q * l.length + i + 1 = q * l.length + (i + 1) by omega] at hb1
                  first
                    | (have hr : rlx (g', e') x = (g', e') := by unfold rlx; rw [if_neg (by simp_all)]
                       rw [hr] at hv hb1
                       exact ⟨by omega, hv, hch, hb1⟩)
                    | (have hr : rlx (g', e') x = (updF g' x.t true, updF e' x.t (e' x.f + x.c)) := by unfold rlx; rw [if_pos (by simp_all)]
                       rw [hr] at hv hb1
                       exact ⟨by omega, hv, fun h => by (first | cases h | simp_all), hb1⟩)
                · skip
                  refine gp pM ?_
                  refine gp (pFb fd_36_1) ?_
                  refine gr (rB1 ty_3) ?_
                  refine gp (pFb fd_172_0) ?_
                  refine gp (pIa ar_169) ?_
                  refine gr (by first | exact rAr ty_37 | exact rArL ty_37 | exact rArR2 ty_37 | exact rB1 ty_37) ?_
                  refine gp pB ?_
                  refine gp pK ?_
                  refine sp pK ?_
                  refine oNil ?_
                  refine aCondDec rfl (fun c66 => ?_) (fun c66 => ?_)
                  · skip
                    refine aSeq ?_
                    refine aReg ?_
                    refine sp (pFb fd_36_1) ?_
                    refine sr (rB1 ty_3) ?_
                    refine sp (pFb fd_172_1) ?_
                    refine sp (pIa ar_170) ?_
                    refine sa ?_
                    first | refine oAr rfl rfl rfl (by repeat constructor) ty_4 ?_ | refine oArL rfl rfl rfl (by repeat constructor) ty_4 ?_ | refine oArR rfl rfl rfl (by repeat constructor) (by first | rfl | exact arrF_len one_len) ty_4 ?_ | refine oStB rfl rfl rfl rfl (by repeat constructor) ty_4 rfl (Nat.le_of_ble_eq_true rfl) rfl ?_
                    refine oNil ?_
                    refine aSeq ?_
                    refine aReg ?_
                    refine sp (pFb fd_36_1) ?_
                    refine sr (rB1 ty_3) ?_
                    refine sp pM ?_
                    refine sp (pFb fd_172_0) ?_
                    refine sp (pIa ar_169) ?_
                    refine sa ?_
                    first | refine oAr rfl rfl rfl (by repeat constructor) ty_37 ?_ | refine oArL rfl rfl rfl (by repeat constructor) ty_37 ?_ | refine oArR rfl rfl rfl (by repeat constructor) (by first | rfl | exact arrF_len one_len) ty_37 ?_ | refine oStB rfl rfl rfl rfl (by repeat constructor) ty_37 rfl (Nat.le_of_ble_eq_true rfl) rfl ?_
                    refine oNil ?_
                    refine aReg ?_
                    refine sp pMa ?_
                    refine oNil ?_
                    refine aReg ?_
                    refine sp pM ?_
                    refine sp pAd ?_
                    refine sp pMa ?_
                    refine oNil ?_
                    refine ⟨(i + 1, _, _, _), ?_, by (try dsimp only); omega, ⟨gInt rfl (by first | rfl | omega | simp), rfl, rfl, rfl, rfl, rfl, trivial⟩, _, (by repeat constructor)⟩
                    rw [drop_step hx, List.foldl_cons] at hv
                    have hb1 := rlx_bd (a := x) (by unfold AOk; omega) hbd
                    rw [show q * l.length + i + 1 = q * l.length + (i + 1) by omega] at hb1
                    first
                      | (have hr : rlx (g', e') x = (g', e') := by unfold rlx; rw [if_neg (by simp_all)]
                         rw [hr] at hv hb1
                         exact ⟨by omega, hv, hch, hb1⟩)
                      | (have hr : rlx (g', e') x = (updF g' x.t true, updF e' x.t (e' x.f + x.c)) := by unfold rlx; rw [if_pos (by simp_all)]
                         rw [hr] at hv hb1
                         exact ⟨by omega, hv, fun h => by (first | cases h | simp_all), hb1⟩)
                  · skip
                    refine aSkip ?_
                    refine aReg ?_
                    refine sp pM ?_
                    refine sp pAd ?_
                    refine sp pMa ?_
                    refine oNil ?_
                    refine ⟨(i + 1, _, _, _), ?_, by (try dsimp only); omega, ⟨gInt rfl (by first | rfl | omega | simp), rfl, rfl, rfl, rfl, rfl, trivial⟩, _, (by repeat constructor)⟩
                    rw [drop_step hx, List.foldl_cons] at hv
                    have hb1 := rlx_bd (a := x) (by unfold AOk; omega) hbd
                    rw [show q * l.length + i + 1 = q * l.length + (i + 1) by omega] at hb1
                    first
                      | (have hr : rlx (g', e') x = (g', e') := by unfold rlx; rw [if_neg (by simp_all)]
                         rw [hr] at hv hb1
                         exact ⟨by omega, hv, hch, hb1⟩)
                      | (have hr : rlx (g', e') x = (updF g' x.t true, updF e' x.t (e' x.f + x.c)) := by unfold rlx; rw [if_pos (by simp_all)]
                         rw [hr] at hv hb1
                         exact ⟨by omega, hv, fun h => by (first | cases h | simp_all), hb1⟩)
              · skip
                refine gf ?_
                refine gf ?_
                refine gf ?_
                refine gf ?_
                refine gf ?_
                refine gf ?_
                refine gf ?_
                refine gf ?_
                refine gf ?_
                refine gf ?_
                refine gf ?_
                refine gf ?_
                refine gf ?_
                refine gf ?_
                refine gf ?_
                refine sp pK ?_
                refine oNil ?_
                refine aCondF rfl ?_
                refine aSkip ?_
                refine aReg ?_
                refine sp pM ?_
                refine sp pAd ?_
                refine sp pMa ?_
                refine oNil ?_
                refine ⟨(i + 1, _, _, _), ?_, by (try dsimp only); omega, ⟨gInt rfl (by first | rfl | omega | simp), rfl, rfl, rfl, rfl, rfl, trivial⟩, _, (by repeat constructor)⟩
                rw [drop_step hx, List.foldl_cons] at hv
                have hb1 := rlx_bd (a := x) (by unfold AOk; omega) hbd
                rw [show q * l.length + i + 1 = q * l.length + (i + 1) by omega] at hb1
                first
                  | (have hr : rlx (g', e') x = (g', e') := by unfold rlx; rw [if_neg (by simp_all)]
                     rw [hr] at hv hb1
                     exact ⟨by omega, hv, hch, hb1⟩)
                  | (have hr : rlx (g', e') x = (updF g' x.t true, updF e' x.t (e' x.f + x.c)) := by unfold rlx; rw [if_pos (by simp_all)]
                     rw [hr] at hv hb1
                     exact ⟨by omega, hv, fun h => by (first | cases h | simp_all), hb1⟩)
            · skip
              refine aExit rfl ?_
              refine aSeq ?_
              refine aReg ?_
              refine sp pM ?_
              refine sp pNo ?_
              refine oNil ?_
              refine aCondNot rfl (fun c77 => ?_) (fun c77 => ?_)
              · skip
                refine aSeq ?_
                refine aReg ?_
                refine sr (rBW ty_172 (hn := distC_len2 _ _)) ?_
                refine sa ?_
                refine oStW (av := .agg (arrF 65 (fun x => [u64A x]) _ ++ arrF 65 (fun x => [boA x]) _)) (hn := distC_len2 _ _) rfl rfl rfl rfl (by repeat constructor) ty_172 ?_
                refine oNil ?_
                refine aRet ?_
                refine finRIs (l := [.agg (arrF 65 (fun x => [u64A x]) e' ++ arrF 65 (fun x => [boA x]) g')]) (.cons (.cellA rfl (by repeat (first | exact List.mem_cons_self | apply List.mem_cons_of_mem)) (by rw [distC_len2]; exact ty_172)) .nil) ?_
                obtain rfl : i = l.length := by omega
                rw [List.drop_of_length_le (by omega)] at hv
                have h1 := hch (by assumption)
                have h2 : (g', e') = rndD l (f, d) := hv
                rw [h1] at h2
                rw [satD_fix h2.symm] at hsat
                rw [← hsat, ← h1]
                rfl
              · skip
                refine aSkip ?_
                refine aReg ?_
                refine sp pM ?_
                refine sp pAd ?_
                refine sp pMa ?_
                refine oNil ?_
                refine ⟨(q + 1, _, _), ?_, by (try dsimp only); omega, ⟨gInt rfl (by first | rfl | omega | simp), rfl, rfl, rfl, trivial⟩, _, (by repeat constructor)⟩
                obtain rfl : i = l.length := by omega
                rw [List.drop_of_length_le (by omega)] at hv
                have hv2 : (g', e') = rndD l (f, d) := hv
                refine ⟨by omega, ?_, ?_⟩
                · rw [hv2, ← hsat, show 65 - q = (65 - (q + 1)) + 1 by omega]; rfl
                · rw [Nat.add_mul, Nat.one_mul]; exact hbd
        · skip
          refine aExit rfl ?_
          refine aSeq ?_
          refine aReg ?_
          refine sr (rBW ty_172 (hn := distC_len2 _ _)) ?_
          refine sa ?_
          refine oStW (av := .agg (arrF 65 (fun x => [u64A x]) _ ++ arrF 65 (fun x => [boA x]) _)) (hn := distC_len2 _ _) rfl rfl rfl rfl (by repeat constructor) ty_172 ?_
          refine oNil ?_
          refine aRet ?_
          refine finRIs (l := [.agg (arrF 65 (fun x => [u64A x]) d ++ arrF 65 (fun x => [boA x]) f)]) (.cons (.cellA rfl (by repeat (first | exact List.mem_cons_self | apply List.mem_cons_of_mem)) (by rw [distC_len2]; exact ty_172)) .nil) ?_
          rw [show 65 - q = 0 by omega] at hsat
          rw [← hsat]
          rfl
end A
end Go.Proofs.Ytmcannmjielalaa
set_option linter.unusedVariables false
set_option linter.unusedSimpArgs false
namespace Go.Proofs.Ytmcannmjielalaa
namespace A
/-- A walk of an arc at least, whose inner nodes are of some. -/
inductive WkB (l : List Arc) (S : Int → Prop) : Int → Int → Int → Prop
  | arc {a : Arc} : a ∈ l → WkB l S a.f a.t a.c
  | step {i u c : Int} {a : Arc} : WkB l S i u c → S u → a ∈ l → a.f = u → WkB l S i a.t (c + a.c)
theorem WkB.pos {l : List Arc} (hl : ∀ a ∈ l, AOk a) {S : Int → Prop} {i k c : Int} (h : WkB l S i k c) : 1 ≤ c := by
  induction h with
  | arc ha => have := hl _ ha; unfold AOk at this; omega
  | step _ _ ha _ ih => have := hl _ ha; unfold AOk at this; omega
theorem WkB.mono {l : List Arc} {S T : Int → Prop} (hST : ∀ u, S u → T u) {i k c : Int} (h : WkB l S i k c) : WkB l T i k c := by
  induction h with
  | arc ha => exact .arc ha
  | step _ hu ha hf ih => exact .step ih (hST _ hu) ha hf
/-- One more inner node. -/
theorem WkB.split {l : List Arc} (hl : ∀ a ∈ l, AOk a) {S : Int → Prop} {x i k c : Int} (h : WkB l (fun u => S u ∨ u = x) i k c) : (∃ c', WkB l S i k c' ∧ c' ≤ c) ∨ ∃ c1 c2, WkB l S i x c1 ∧ WkB l S x k c2 ∧ c1 + c2 ≤ c := by
  induction h with
  | arc ha => exact .inl ⟨_, .arc ha, Int.le_refl _⟩
  | @step i u c a hw hu ha hf ih =>
    rcases ih with ⟨c', h1, h2⟩ | ⟨c1, c2, h1, h2, h3⟩
    · rcases hu with hu | rfl
      · exact .inl ⟨_, .step h1 hu ha hf, by omega⟩
      · right
        refine ⟨c', a.c, h1, ?_, by omega⟩
        rw [← hf]
        exact .arc ha
    · have hp := h2.pos hl
      right
      rcases hu with hu | rfl
      · exact ⟨c1, c2 + a.c, h1, .step h2 hu ha hf, by omega⟩
      · refine ⟨c1, a.c, h1, ?_, by omega⟩
        rw [← hf]
        exact .arc ha
theorem WkB.none {l : List Arc} {S : Int → Prop} (hS : ∀ u, ¬ S u) {i k c : Int} (h : WkB l S i k c) : ∃ a ∈ l, a.f = i ∧ a.t = k ∧ a.c = c := by
  cases h with
  | arc ha => exact ⟨_, ha, rfl, rfl, rfl⟩
  | step _ hu _ _ => exact absurd hu (hS _)
theorem Wk.wkB {l : List Arc} {S : Int → Prop} (hS : ∀ a ∈ l, S a.f) {i k c : Int} (h : Wk l i k c) : k = i ∧ c = 0 ∨ WkB l S i k c := by
  induction h with
  | refl => exact .inl ⟨rfl, rfl⟩
  | @step u c a hw ha hf ih =>
    right
    rcases ih with ⟨h1, h2⟩ | ih
    · rw [h2, Int.zero_add, ← h1, ← hf]; exact .arc ha
    · exact .step ih (by rw [← hf]; exact hS a ha) ha hf
abbrev MxF := Nat → Nat → Int
def upd2 (m : MxF) (i k : Nat) (v : Int) : MxF := fun x y => if x = i ∧ y = k then v else m x y
/-- Sound: far, or what a walk costs. -/
structure MSnd (l : List Arc) (ns : Nat → Int) (n : Nat) (m : MxF) : Prop where
  rng : ∀ i k, i < n → k < n → 0 ≤ m i k ∧ m i k ≤ farI
  snd : ∀ i k, i < n → k < n → m i k = farI ∨ Wk l (ns i) (ns k) (m i k)
  dia : ∀ i, i < n → m i i = 0
theorem MSnd.put {l : List Arc} {ns : Nat → Int} {n : Nat} {m : MxF} (I : MSnd l ns n m) {i k by_ : Nat} (hi : i < n) (hk : k < n) (hb : by_ < n) : MSnd l ns n (upd2 m i k (min (m i k) (addS (m i by_) (m by_ k)))) := by
  have h1 := I.rng i k hi hk
  have h2 := I.rng i by_ hi hb
  have h3 := I.rng by_ k hb hk
  have hadd : 0 ≤ addS (m i by_) (m by_ k) ∧ addS (m i by_) (m by_ k) ≤ farI := by unfold addS; split <;> (unfold farI at *; omega)
  refine ⟨fun x y hx hy => ?_, fun x y hx hy => ?_, fun x hx => ?_⟩
  · unfold upd2
    split
    · omega
    · exact I.rng x y hx hy
  · unfold upd2
    split
    · rename_i h
      obtain ⟨rfl, rfl⟩ := h
      by_cases hlt : m x y ≤ addS (m x by_) (m by_ y)
      · rw [Int.min_eq_left hlt]; exact I.snd x y hx hy
      · rw [Int.min_eq_right (by omega)]
        unfold addS at hlt ⊢
        split at hlt
        · rename_i h4; rw [if_pos h4]; exact .inl rfl
        · rename_i h4
          rw [if_neg h4]
          rcases I.snd x by_ hx hb with h5 | h5
          · omega
          · rcases I.snd by_ y hb hy with h6 | h6
            · omega
            · exact .inr (h5.trans h6)
    · exact I.snd x y hx hy
  · unfold upd2
    split
    · rename_i h
      obtain ⟨rfl, rfl⟩ := h
      rw [I.dia x hx] at *
      omega
    · exact I.dia x hx
/-- No walk whose inner nodes are of some is cheaper. -/
def MDom (l : List Arc) (ns : Nat → Int) (n : Nat) (b : Nat) (m : MxF) : Prop := ∀ i k c, i < n → k < n → WkB l (fun u => ∃ j, j < b ∧ ns j = u) (ns i) (ns k) c → m i k ≤ c
/-- A round: those that were looked at, by the node of the round. -/
def MRnd (n by_ : Nat) (m0 m : MxF) (i k : Nat) : Prop := (∀ x y, x < n → y < n → m x y ≤ m0 x y) ∧ ∀ x y, x < n → y < n → (x < i ∨ x = i ∧ y < k) → m x y ≤ m0 x by_ + m0 by_ y
theorem MRnd.start (n by_ : Nat) (m0 : MxF) : MRnd n by_ m0 m0 0 0 := ⟨fun _ _ _ _ => Int.le_refl _, fun x y _ _ h => by omega⟩
theorem MRnd.row {n by_ : Nat} {m0 m : MxF} {i : Nat} (h : MRnd n by_ m0 m i n) : MRnd n by_ m0 m (i + 1) 0 := ⟨h.1, fun x y hx hy hh => h.2 x y hx hy (by omega)⟩
theorem MRnd.put {l : List Arc} {ns : Nat → Int} {n by_ : Nat} {m0 m : MxF} {i k : Nat} (I : MSnd l ns n m) (h : MRnd n by_ m0 m i k) (hi : i < n) (hk : k < n) (hb : by_ < n) : MRnd n by_ m0 (upd2 m i k (min (m i k) (addS (m i by_) (m by_ k)))) i (k + 1) := by
  have h2 := I.rng i by_ hi hb
  have h3 := I.rng by_ k hb hk
  have ha := addS_le h2.1 h3.1
  have g2 := h.1 i by_ hi hb
  have g3 := h.1 by_ k hb hk
  refine ⟨fun x y hx hy => ?_, fun x y hx hy hh => ?_⟩
  · have := h.1 x y hx hy
    unfold upd2
    split
    · rename_i e; obtain ⟨rfl, rfl⟩ := e; omega
    · exact this
  · unfold upd2
    split
    · rename_i e; obtain ⟨rfl, rfl⟩ := e; omega
    · exact h.2 x y hx hy (by omega)
theorem MDom.next {l : List Arc} (hl : ∀ a ∈ l, AOk a) {ns : Nat → Int} {n by_ : Nat} {m0 m : MxF} (hd : MDom l ns n by_ m0) (h : MRnd n by_ m0 m n 0) (hb : by_ < n) : MDom l ns n (by_ + 1) m := by
  intro i k c hi hk hw
  have hw' : WkB l (fun u => (∃ j, j < by_ ∧ ns j = u) ∨ u = ns by_) (ns i) (ns k) c := hw.mono (fun u ⟨j, hj, e⟩ => by
    by_cases hjb : j = by_
    · right; rw [← e, hjb]
    · left; exact ⟨j, by omega, e⟩)
  have h1 := h.1 i k hi hk
  rcases hw'.split hl with ⟨c', a1, a2⟩ | ⟨c1, c2, a1, a2, a3⟩
  · have := hd i k c' hi hk a1; omega
  · have e1 := hd i by_ c1 hi hb a1
    have e2 := hd by_ k c2 hb hk a2
    have e3 := h.2 i k hi hk (by omega)
    omega
/-- At the end: the distances. -/
theorem mx_end {l : List Arc} (hl : ∀ a ∈ l, AOk a) (hll : l.length ≤ 1000000) {ns : Nat → Int} {n : Nat} (hr : ∀ i, i < n → 1 ≤ ns i ∧ ns i ≤ 64) (hinj : ∀ i k, i < n → k < n → ns i = ns k → i = k) (hS : ∀ a ∈ l, ∃ j, j < n ∧ ns j = a.f) {m : MxF} (I : MSnd l ns n m) (hd : MDom l ns n n m) {i k : Nat} (hi : i < n) (hk : k < n) : m i k = if isF l (ns i) (ns k) then dF l (ns i) (ns k) else farI := by
  have hri := hr i hi
  split
  · rename_i h
    have hw := isF_wk hl h
    have hb := dF_range hl hll (ns i) (ns k)
    have hle : m i k ≤ dF l (ns i) (ns k) := by
      rcases hw.wkB (S := fun u => ∃ j, j < n ∧ ns j = u) hS with ⟨h1, h2⟩ | h1
      · rw [h2, hinj k i hk hi h1, I.dia i hi]
        exact Int.le_refl _
      · exact hd i k _ hi hk h1
    rcases I.snd i k hi hk with h3 | h3
    · unfold farI at h3; omega
    · have := wk_isF hl (.inl hri) h3
      omega
  · rename_i h
    rcases I.snd i k hi hk with h3 | h3
    · exact h3
    · exact absurd (wk_isF hl (.inl hri) h3).1 h
end A
end Go.Proofs.Ytmcannmjielalaa
set_option linter.unusedVariables false
set_option linter.unusedSimpArgs false
set_option linter.unusedSectionVars false
namespace Go.Proofs.Ytmcannmjielalaa
namespace A
variable {P : Program} {N : Nat} {env : Env} {h : List HA} {K : Cont} {X : List (Nat × Cont)} {Rt : Cont}
abbrev FamL := List (Option Nat × Nat × List (List AV))
theorem own_slG (g : Option Nat) (c : Nat) (e : TypeId) (sz : Nat) (es : List (List AV)) : (HA.sl g c e sz es).own = gOwn g := by cases g <;> rfl
theorem own_fam (e : TypeId) (sz : Nat) (L : FamL) : (HA.fam e sz L).own = L.flatMap fun p => gOwn p.1 := rfl
theorem own_famC (e : TypeId) (sz : Nat) (p : Option Nat × Nat × List (List AV)) (L : FamL) : (HA.fam e sz (p :: L)).own = gOwn p.1 ++ (HA.fam e sz L).own := by rw [own_fam, own_fam, List.flatMap_cons]
theorem own_famP {e : TypeId} {sz : Nat} {L L' : FamL} (hp : L.Perm L') : ((HA.fam e sz L).own).Perm (HA.fam e sz L').own := hp.flatMap_right _
/-- The heap read otherwise: what is owned is the same, and all stands for what it says. -/
theorem weak_same {h' : List HA} (ho : (owns h).Perm (owns h')) (hx : ∀ F w, (∀ x ∈ h, HARep F w x) → ∀ x ∈ h', HARep F w x) : Weak N env h env h' := fun F a w s =>
  ⟨F, ⟨s.r.same (ho.nodup_iff.1 s.r.nd) (fun b hb => ho.mem_iff.2 hb) (hx F w s.r.rep), s.size, s.env⟩, .same (fun b hb => ho.mem_iff.2 hb)⟩
theorem weak_famNew (e : TypeId) (sz : Nat) : Weak N env h env (.fam e sz [] :: h) :=
  weak_same (.refl _) (fun F w hh x hx => by
    rcases List.mem_cons.1 hx with rfl | hx
    · exact fun p hp => by simp at hp
    · exact hh x hx)
theorem famTake_same {e : TypeId} {sz : Nat} {L L' : FamL} {g : Option Nat} {c : Nat} {es : List (List AV)} {h' : List HA} (hs : Spl h (.fam e sz L) h') (hp : L.Perm ((g, c, es) :: L')) : (owns h).Perm (owns (.sl g c e sz es :: .fam e sz L' :: h')) ∧ ∀ F w, (∀ x ∈ h, HARep F w x) → ∀ x ∈ (HA.sl g c e sz es :: .fam e sz L' :: h'), HARep F w x := by
  refine ⟨?_, fun F w hh x hx => ?_⟩
  · refine (owns_perm hs.perm).trans ?_
    rw [owns_cons, owns_cons, owns_cons, own_slG, ← List.append_assoc, ← own_famC e sz (g, c, es) L']
    exact (own_famP hp).append_right _
  · have hf : HARep F w (.fam e sz L) := hh _ (spl_mem hs)
    rcases List.mem_cons.1 hx with rfl | hx
    · exact hf (g, c, es) (hp.mem_iff.2 (by simp))
    · rcases List.mem_cons.1 hx with rfl | hx
      · exact fun p hp' => hf p (hp.mem_iff.2 (List.mem_cons_of_mem _ hp'))
      · exact hh x (hs.perm.mem_iff.2 (List.mem_cons_of_mem _ hx))
theorem weak_famTake {e : TypeId} {sz : Nat} {L L' : FamL} {g : Option Nat} {c : Nat} {es : List (List AV)} {h' : List HA} (hs : Spl h (.fam e sz L) h') (hp : L.Perm ((g, c, es) :: L')) : Weak N env h env (.sl g c e sz es :: .fam e sz L' :: h') :=
  weak_same (famTake_same hs hp).1 (famTake_same hs hp).2
theorem weak_famPut {e : TypeId} {sz : Nat} {L L' : FamL} {g : Option Nat} {c : Nat} {es : List (List AV)} {h' : List HA} (hs : Tk h [.sl g c e sz es, .fam e sz L] h') (hp : ((g, c, es) :: L).Perm L') : Weak N env h env (.fam e sz L' :: h') := by
  refine weak_same ?_ (fun F w hh x hx => ?_)
  · refine (owns_perm hs.perm).trans ?_
    rw [owns_append, owns_cons, owns_cons, owns_nil, List.append_nil, owns_cons, own_slG, ← own_famC e sz (g, c, es) L]
    exact (own_famP hp).append_right _
  · have hm : ∀ x, x ∈ ([.sl g c e sz es, .fam e sz L] : List HA) ++ h' → x ∈ h := fun x hx => hs.perm.mem_iff.2 hx
    have h1 : HARep F w (.sl g c e sz es) := hh _ (hm _ (by simp))
    have h2 : HARep F w (.fam e sz L) := hh _ (hm _ (by simp))
    rcases List.mem_cons.1 hx with rfl | hx
    · intro p hp'
      rcases List.mem_cons.1 (hp.mem_iff.2 hp') with rfl | hp'
      · exact h1
      · exact h2 p hp'
    · exact hh x (hm x (List.mem_append_right _ hx))
section
variable {α : Type} {e : TypeId} {sz : Nat} {f : α → List AV}
end
end A
end Go.Proofs.Ytmcannmjielalaa
set_option linter.unusedVariables false
set_option linter.unusedSimpArgs false
set_option linter.unusedSectionVars false
namespace Go.Proofs.Ytmcannmjielalaa
namespace A
open Go.Lib Go.RowKit
variable {P : Program} {N : Nat} {env : Env} {h : List HA} {K : Cont} {X : List (Nat × Cont)} {Rt : Cont}
/-- The first cells of a slice of one's own, copied behind them. -/
theorem oCopySelf {o : Oper} {t t' e : TypeId} {x y : Operand} {d b c n i by_ : Nat} {es : List (List AV)} {h' : List HA} (ho : o.op = .call ⟨.builtin .copy, #[x, y], #[t, t']⟩) (hd : o.dst = some d) (hN : d < N) (hx : ev env x = some (.v (.slice (some ⟨b, i * 1, none⟩) (n - i) (c - i)))) (hy : ev env y = some (.v (slV (some b) i c)))
    (hs : Spl h (.sl (some b) c e 1 es) h') (hn : n = es.length) (hi : i ≤ n) (ht : elemOf P t = some (e, 1, by_)) (hk : K ((d, .int (Nat.min i (n - i))) :: env) (.sl (some b) c e 1 (es.take i ++ (es.take (Nat.min i (n - i)) ++ es.drop (i + Nat.min i (n - i)))) :: h')) : AOp P N o env h K := by
  subst hn
  intro B F a w Q s ex hdef
  obtain ⟨hu, ii, z, hii, hzz, hisz, hzs, h0, hby⟩ := elemOf_spec ht
  have hxv := s.ev hx
  have hyv := s.ev hy
  generalize hv : a.eval x = vx at hxv
  generalize hv2 : a.eval y = vy at hyv
  cases hxv
  cases hyv
  have hrow := s.r.rep _ (spl_mem hs)
  obtain ⟨cur, hg, hnc, hcm, hcs, hzz', hone, hrep⟩ := row_of hrow
  obtain ⟨xs, hxl, _, hx1, hxc, hxr⟩ := own_cells hrow
  generalize hkk : Nat.min i (es.length - i) = k at *
  have hki : k ≤ i ∧ i + k ≤ es.length := by
    have h1 := Nat.min_le_left i (es.length - i)
    have h2 := Nat.min_le_right i (es.length - i)
    constructor
    · rw [← hkk]; exact h1
    · have : k ≤ es.length - i := by rw [← hkk]; exact h2
      omega
  have hxk : ∀ j, j < k → xs[j]? = some xs[j]! := fun j hj => by
    have hjl : j < xs.length := by omega
    rw [getElem!_pos xs j hjl]
    exact List.getElem?_eq_getElem hjl
  have hfc := run_loadCells (P := P) w ⟨b, 0, none⟩ k (fun j => xs[j]!) (fun j hj => by rw [add_none]; simpa using hxc j _ (hxk j hj))
  generalize hcells : ((List.range k).map fun j => xs[j]!).toArray = cells at hfc
  have hcl : cells.size = k := by rw [← hcells]; simp
  have hcg : ∀ j, j < k → cells[j]? = some xs[j]! := fun j hj => by rw [← hcells]; simp [hj]
  have hc1 : ∀ x ∈ cells, x.oneCell' = true := fun v hv => by
    rw [← hcells] at hv
    simp only [List.mem_toArray, List.mem_map, List.mem_range] at hv
    obtain ⟨j, hj, rfl⟩ := hv
    exact hx1 _ (List.mem_of_getElem? (hxk j hj))
  have hst := run_storeCells_at P b i e cells.toList 0 cur w hg (by simp; omega) (by simpa using hc1)
  simp only [Nat.add_zero, Array.length_toList] at hst
  obtain ⟨hR, hE⟩ := s.r.wrote (es' := es.take i ++ (es.take k ++ es.drop (i + k))) (cells := cells) (q := i) hs hg (by omega) hc1 (by simp; omega) (by
    intro y hy
    rcases List.mem_append.1 hy with hy | hy
    · exact hzz' y (List.mem_of_mem_take hy)
    · rcases List.mem_append.1 hy with hy | hy
      · exact hzz' y (List.mem_of_mem_take hy)
      · exact hzz' y (List.mem_of_mem_drop hy)) (by
    intro q j y av hq hj
    have hmem : y ∈ es := by
      rcases List.mem_append.1 (List.mem_of_getElem? hq) with hy | hy
      · exact List.mem_of_mem_take hy
      · rcases List.mem_append.1 hy with hy | hy
        · exact List.mem_of_mem_take hy
        · exact List.mem_of_mem_drop hy
    have hyl := hzz' y hmem
    have hj0 : j = 0 := by have := (List.getElem?_eq_some_iff.1 hj).1; omega
    subst hj0
    simp only [Nat.mul_one, Nat.add_zero]
    by_cases h1 : q < i
    · right
      refine ⟨by omega, y, ?_, hj⟩
      rw [List.getElem?_append_left (by simp; omega), List.getElem?_take_of_lt h1] at hq
      exact hq
    · rw [List.getElem?_append_right (by simp; omega)] at hq
      have e1 : (es.take i).length = i := by simp; omega
      rw [e1] at hq
      by_cases h2 : q < i + k
      · left
        refine ⟨by omega, by omega, fun v hv => ?_⟩
        rw [List.getElem?_append_left (by simp; omega), List.getElem?_take_of_lt (by omega)] at hq
        have h3 : q - i < k := by omega
        rw [hcl] at *
        rw [hcg _ h3] at hv
        refine hxr (q - i) 0 y av v hq hj ?_
        rw [Nat.mul_one, Nat.add_zero, hxk _ h3]
        exact hv
      · right
        refine ⟨by omega, y, ?_, hj⟩
        rw [List.getElem?_append_right (by simp; omega), List.getElem?_drop] at hq
        rw [← hq]
        congr 1
        simp
        omega)
  have hrun : (execOp a.eval o).run P w = .ok (.value (.int .i64 k)) (w.setRow b (cur.toList.take i ++ cells.toList ++ cur.toList.drop (i + cells.size)).toArray) := by
    simp only [execOp, ho, resolve, Sem.run_bind, Sem.run_pure, Result.andThen_ok, invoke, builtin]
    simp only [List.map_toArray, List.map_cons, List.map_nil, hv, hv2, slV, Option.map_some, Nat.mul_one]
    simp [Builtin.copy_, run_underlying hu, sizeOf, typeInfo, hii, hisz, Builtin.lenOf, Builtin.firstCells, hkk, hfc, hst, goInt]
  unfold Oper.wp
  rw [hrun, Oper.upon_value, hd]
  exact ⟨hdef, F, _, _, hk, s.put hE hR hN (.v _), ex.trans hE⟩
theorem AOp.weakW {o : Oper} {K' : Cont} {env0 : Env} {h0 : List HA} (hw : Weak N env h env0 h0) (q : AOp P N o env0 h0 K') (hk : ∀ env' h', K' env' h' → ∃ h2, Weak N env' h' env' h2 ∧ K env' h2) : AOp P N o env h K := by
  intro B F a w Q s e d
  obtain ⟨F0, s0, e0⟩ := hw F a w s
  refine Oper.wp_mono ?_ (q B F0 a w Q s0 (e.trans e0) d)
  rintro a' w' ⟨hd, F', env', h', hk', s', e'⟩
  obtain ⟨h2, hw2, hk2⟩ := hk env' h' hk'
  obtain ⟨F2, s2, e2⟩ := hw2 F' a' w' s'
  exact ⟨hd, F2, env', h2, hk2, s2, e'.trans e2⟩
/-! ### Rows -/
def rowU (M : Nat → Nat → Int) (n i : Nat) : List (List AV) := ((List.range n).map fun k => M i k).map fun x => [u64A x]
def famX (bb cc : Nat → Nat) (M : Nat → Nat → Int) (n r : Nat) : FamL := (List.range r).map fun i => (some (bb i), cc i, rowU M n i)
def updX (M : Nat → Nat → Int) (i k : Nat) (v : Int) : Nat → Nat → Int := fun x y => if x = i ∧ y = k then v else M x y
def fn1 (f : Nat → Nat) (i v : Nat) : Nat → Nat := fun x => if x = i then v else f x
theorem range_split {α : Type} {f : Nat → α} {r i : Nat} (hi : i < r) : ((List.range r).map f).Perm (f i :: ((List.range r).eraseIdx i).map f) := by
  have h : (List.range r).Perm (i :: (List.range r).eraseIdx i) := by
    rw [List.eraseIdx_eq_take_drop_succ]
    conv => lhs; rw [← List.take_append_drop i (List.range r), List.drop_eq_getElem_cons (by simpa using hi), List.getElem_range]
    exact List.perm_middle
  exact h.map f
theorem range_erase {r i : Nat} : ∀ x ∈ (List.range r).eraseIdx i, x ≠ i := fun x hx e => by
  subst e
  obtain ⟨j, hj⟩ := List.mem_iff_getElem?.1 hx
  rw [List.getElem?_eraseIdx] at hj
  split at hj
  · have := List.getElem?_eq_some_iff.1 hj
    obtain ⟨h1, h2⟩ := this
    rw [List.getElem_range] at h2
    omega
  · have := List.getElem?_eq_some_iff.1 hj
    obtain ⟨h1, h2⟩ := this
    rw [List.getElem_range] at h2
    omega
theorem weak_famRow {e : TypeId} {bb cc : Nat → Nat} {M : Nat → Nat → Int} {n r : Nat} {h' : List HA} (i : Nat) (hi : i < r) (hs : Spl h (.fam e 1 (famX bb cc M n r)) h') : Weak N env h env (.sl (some (bb i)) (cc i) e 1 (rowU M n i) :: .fam e 1 (((List.range r).eraseIdx i).map fun i => (some (bb i), cc i, rowU M n i)) :: h') :=
  weak_famTake hs (range_split (f := fun i => (some (bb i), cc i, rowU M n i)) hi)
theorem weak_famRowBack {e : TypeId} {bb cc : Nat → Nat} {M M' : Nat → Nat → Int} {n r : Nat} {h' : List HA} (i : Nat) (hi : i < r) (hM : ∀ x, x ≠ i → rowU M' n x = rowU M n x) (hs : Tk h [.sl (some (bb i)) (cc i) e 1 (rowU M' n i), .fam e 1 (((List.range r).eraseIdx i).map fun i => (some (bb i), cc i, rowU M n i))] h') : Weak N env h env (.fam e 1 (famX bb cc M' n r) :: h') := by
  refine weak_famPut hs ?_
  refine List.Perm.trans ?_ (range_split (f := fun i => (some (bb i), cc i, rowU M' n i)) hi).symm
  refine List.Perm.cons _ ?_
  rw [List.map_congr_left (g := fun i => (some (bb i), cc i, rowU M' n i)) (fun x hx => by rw [hM x (range_erase x hx)])]
theorem rowU_len (M : Nat → Nat → Int) (n i : Nat) : (rowU M n i).length = n := by simp [rowU]
theorem rowU_upd {M : Nat → Nat → Int} {n i k : Nat} {v : Int} : rowU (updX M i k v) n i = (rowU M n i).set k [u64A v] := by
  unfold rowU
  rw [← List.map_set (f := fun x => [u64A x])]
  congr 1
  apply List.ext_getElem?
  intro j
  rw [List.getElem?_map, List.getElem?_set, List.length_map, List.length_range, List.getElem?_map]
  by_cases hj : j < n
  · rw [List.getElem?_range hj]
    by_cases e : k = j
    · subst e
      rw [if_pos rfl, if_pos hj]
      simp [updX]
    · rw [if_neg e]
      have e2 : ¬ j = k := fun e' => e e'.symm
      simp [updX, e2]
  · rw [List.getElem?_eq_none (by simpa using hj)]
    by_cases e : k = j
    · subst e
      rw [if_pos rfl, if_neg hj]
      rfl
    · rw [if_neg e]
      rfl
theorem rowU_other {M : Nat → Nat → Int} {n i k x : Nat} {v : Int} (h : x ≠ i) : rowU (updX M i k v) n x = rowU M n x := by
  unfold rowU
  congr 1
  refine List.map_congr_left (fun j _ => ?_)
  simp [updX, h]
/-- An entry is read. -/
theorem rMx {o : Oper} {t e : TypeId} {y : Operand} {bb cc : Nat → Nat} {M : Nat → Nat → Int} {n r i k : Nat} {h' : List HA} (ht : tyOf P t = some (1, false)) (hx : ev env y = some (.v (.pointer (some ⟨bb i, 0 + ((k : Nat) : Int).toNat * 1, none⟩)))) (hi : i < r) (hk : k < n) (ho : o.op = .load t y := by rfl) (hs : Spl h (.fam e 1 (famX bb cc M n r)) h' := by repeat constructor) : ARead P N o env h (u64A (M i k)) := by
  have hq : ARead P N o env (.sl (some (bb i)) (cc i) e 1 (((List.range n).map fun k => M i k).map fun x => [u64A x]) :: .fam e 1 (((List.range r).eraseIdx i).map fun i => (some (bb i), cc i, rowU M n i)) :: h') (u64A (M i k)) :=
    rO1 (fC := fun x => [u64A x]) (l := (List.range n).map fun k => M i k) (i := ((k : Nat) : Int)) (a := M i k) ht (by rw [Int.toNat_natCast, List.getElem?_map, List.getElem?_range hk]; rfl) ho hx .hd
  intro F a w s
  have hsm := famTake_same hs (range_split (f := fun i => (some (bb i), cc i, rowU M n i)) hi)
  have s1 : Sat N F env (.sl (some (bb i)) (cc i) e 1 (rowU M n i) :: .fam e 1 (((List.range r).eraseIdx i).map fun i => (some (bb i), cc i, rowU M n i)) :: h') a w := ⟨s.r.same (hsm.1.nodup_iff.1 s.r.nd) (fun b hb => hsm.1.mem_iff.2 hb) (hsm.2 F w s.r.rep), s.size, s.env⟩
  obtain ⟨x, hr, he⟩ := hq F a w s1
  exact ⟨x, hr, fun w' hag => he w' (fun b hb => hag b (hb.imp id (fun hm => hsm.1.mem_iff.2 hm)))⟩
/-- An entry is written. -/
theorem oMx {o : Oper} {t e : TypeId} {x y : Operand} {bb cc : Nat → Nat} {M : Nat → Nat → Int} {n r i k : Nat} {v : Int} {h' : List HA} (ho : o.op = .store t x y) (hd : o.dst = none) (hx : ev env x = some (.v (.pointer (some ⟨bb i, 0 + ((k : Nat) : Int).toNat * 1, none⟩)))) (hy : ev env y = some (u64A v))
    (ht : tyOf P t = some (1, false)) (hi : i < r) (hkn : k < n) (hk : K env (.fam e 1 (famX bb cc (updX M i k v) n r) :: h')) (hs : Spl h (.fam e 1 (famX bb cc M n r)) h' := by repeat constructor) : AOp P N o env h K := by
  refine AOp.weakW (K' := fun env' h1 => env' = env ∧ h1 = .sl (some (bb i)) (cc i) e 1 ((((List.range n).map fun k => M i k).set ((k : Nat) : Int).toNat v).map fun x => [u64A x]) :: .fam e 1 (((List.range r).eraseIdx i).map fun i => (some (bb i), cc i, rowU M n i)) :: h') (weak_famRow i hi hs) ?_ ?_
  · exact oStE (fC := fun x => [u64A x]) (l := (List.range n).map fun k => M i k) (a := v) (i := ((k : Nat) : Int)) ho hd hx hy ht ⟨rfl, rfl⟩ .hd rfl (fun _ => rfl) rfl (by rw [Int.toNat_natCast]; simpa using hkn)
  · rintro env' h1 ⟨rfl, rfl⟩
    refine ⟨_, weak_famRowBack (M := M) (M' := updX M i k v) i hi (fun x hx => rowU_other hx) ?_, hk⟩
    have e1 : ((((List.range n).map fun k => M i k).set ((k : Nat) : Int).toNat v).map fun x => [u64A x]) = rowU (updX M i k v) n i := by
      rw [rowU_upd, Int.toNat_natCast]
      unfold rowU
      rw [List.map_set]
    rw [e1]
    exact .cons .hd (.cons .hd .nil)
end A
end Go.Proofs.Ytmcannmjielalaa
set_option linter.unusedVariables false
set_option linter.unusedSimpArgs false
namespace Go.Proofs.Ytmcannmjielalaa
namespace A
theorem el_54 : elemOf Try.prog 54 = some (37, 1, 8) := by kernel_rfl
theorem es_54 : elemSize Try.prog 54 = some 1 := by kernel_rfl
theorem ik_270 : intKindOf Try.prog 270 = some .u64 := by kernel_rfl
theorem sl_54 : isSl Try.prog 54 = true := by kernel_rfl
theorem ze_37 : zeroOf Try.prog 37 = some (.int .u64 0) := by kernel_rfl
/- bits.Mul64 -/
set_option maxRecDepth 100000 in
set_option maxHeartbeats 4000000 in
theorem bits_Mul64 {n : Nat} (hn : n ≤ 65) : Triple Try.prog 318 [.v (.int .u64 1), .v (.int .u64 (n : Int))] [] (Is (.tup [.v (.int .u64 0), .v (.int .u64 (n : Int))]) []) := by
  refine triple_of Try.func318 rfl (by kernel_rfl) rfl (by simp) ?_
  refine aSeq ?_
  refine aReg ?_
  refine sp pMa ?_
  refine sp pMa ?_
  refine oNil ?_
  refine aSeq ?_
  refine aReg ?_
  refine sp pM ?_
  refine sp pB ?_
  refine sp pMa ?_
  refine oNil ?_
  refine aSeq ?_
  refine aReg ?_
  refine sp pM ?_
  refine sp (pShr rfl rfl rfl (by omega)) ?_
  refine sp pMa ?_
  refine oNil ?_
  refine aSeq ?_
  refine aReg ?_
  refine sp pM ?_
  refine sp pB ?_
  refine sp pMa ?_
  refine oNil ?_
  refine aSeq ?_
  refine aReg ?_
  refine sp pM ?_
  refine sp (pShr rfl rfl rfl (by omega)) ?_
  refine sp pMa ?_
  refine oNil ?_
  refine aSeq ?_
  refine aReg ?_
  refine sp pM ?_
  refine sp pM ?_
  refine sp (by first | exact pMuK | exact pB) ?_
  refine sp pMa ?_
  refine oNil ?_
  refine aSeq ?_
  refine aReg ?_
  refine sp pM ?_
  refine sp pM ?_
  refine sp (by first | exact pMuK | exact pB) ?_
  refine sp pM ?_
  refine sp (pShr rfl rfl rfl (by omega)) ?_
  refine sp (by first | exact pAdK | exact pB) ?_
  refine sp pMa ?_
  refine oNil ?_
  refine aSeq ?_
  refine aReg ?_
  refine sp pM ?_
  refine sp pB ?_
  refine sp pMa ?_
  refine oNil ?_
  refine aSeq ?_
  refine aReg ?_
  refine sp pM ?_
  refine sp (pShr rfl rfl rfl (by omega)) ?_
  refine sp pMa ?_
  refine oNil ?_
  refine aSeq ?_
  refine aReg ?_
  refine sp pM ?_
  refine sp pM ?_
  refine sp pM ?_
  refine sp (by first | exact pMuK | exact pB) ?_
  refine sp (by first | exact pAdK | exact pB) ?_
  refine sp pMa ?_
  refine oNil ?_
  refine aSeq ?_
  refine aReg ?_
  refine sp pM ?_
  refine sp pM ?_
  refine sp (by first | exact pMuK | exact pB) ?_
  refine sp pM ?_
  refine sp (by first | exact pAdK | exact pB) ?_
  refine sp pM ?_
  refine sp (pShr rfl rfl rfl (by omega)) ?_
  refine sp (by first | exact pAdK | exact pB) ?_
  refine sp pMa ?_
  refine oNil ?_
  refine aSeq ?_
  refine aReg ?_
  refine sp pM ?_
  refine sp pM ?_
  refine sp (by first | exact pMuK | exact pB) ?_
  refine sp pMa ?_
  refine oNil ?_
  refine aRet ?_
  refine finIs rfl ?_
  obtain rfl | rfl | rfl | rfl | rfl | rfl | rfl | rfl | rfl | rfl | rfl | rfl | rfl | rfl | rfl | rfl | rfl | rfl | rfl | rfl | rfl | rfl | rfl | rfl | rfl | rfl | rfl | rfl | rfl | rfl | rfl | rfl | rfl | rfl | rfl | rfl | rfl | rfl | rfl | rfl | rfl | rfl | rfl | rfl | rfl | rfl | rfl | rfl | rfl | rfl | rfl | rfl | rfl | rfl | rfl | rfl | rfl | rfl | rfl | rfl | rfl | rfl | rfl | rfl | rfl | rfl := (show n = 0 ∨ n = 1 ∨ n = 2 ∨ n = 3 ∨ n = 4 ∨ n = 5 ∨ n = 6 ∨ n = 7 ∨ n = 8 ∨ n = 9 ∨ n = 10 ∨ n = 11 ∨ n = 12 ∨ n = 13 ∨ n = 14 ∨ n = 15 ∨ n = 16 ∨ n = 17 ∨ n = 18 ∨ n = 19 ∨ n = 20 ∨ n = 21 ∨ n = 22 ∨ n = 23 ∨ n = 24 ∨ n = 25 ∨ n = 26 ∨ n = 27 ∨ n = 28 ∨ n = 29 ∨ n = 30 ∨ n = 31 ∨ n = 32 ∨ n = 33 ∨ n = 34 ∨ n = 35 ∨ n = 36 ∨ n = 37 ∨ n = 38 ∨ n = 39 ∨ n = 40 ∨ n = 41 ∨ n = 42 ∨ n = 43 ∨ n = 44 ∨ n = 45 ∨ n = 46 ∨ n = 47 ∨ n = 48 ∨ n = 49 ∨ n = 50 ∨ n = 51 ∨ n = 52 ∨ n = 53 ∨ n = 54 ∨ n = 55 ∨ n = 56 ∨ n = 57 ∨ n = 58 ∨ n = 59 ∨ n = 60 ∨ n = 61 ∨ n = 62 ∨ n = 63 ∨ n = 64 ∨ n = 65 by omega)
  all_goals kernel_rfl
/- bits.Mul -/
set_option maxRecDepth 100000 in
set_option maxHeartbeats 400000 in
theorem bits_Mul {n : Nat} (hn : n ≤ 65) : Triple Try.prog 268 [.v (.int .u64 1), .v (.int .u64 (n : Int))] [] (Is (.tup [.v (.int .u64 0), .v (.int .u64 (n : Int))]) []) := by
  refine triple_of Try.func268 rfl (by kernel_rfl) rfl (by simp) ?_
  refine aSeq ?_
  refine aReg ?_
  refine sp pMa ?_
  refine sp pMa ?_
  refine oNil ?_
  refine aSeq ?_
  refine aCondF rfl ?_
  refine aSkip ?_
  refine aSeq ?_
  refine aReg ?_
  refine sp pM ?_
  refine sp pM ?_
  refine sq ?_
  refine ci rfl rfl rfl (bits_Mul64 hn) ?_
  refine sp pM ?_
  refine sp pX ?_
  refine sp pX ?_
  refine sp pMa ?_
  refine sp pMa ?_
  refine oNil ?_
  refine aSeq ?_
  refine aReg ?_
  refine sp pM ?_
  refine sp pM ?_
  refine sp pMa ?_
  refine sp pMa ?_
  refine oNil ?_
  refine aRet ?_
  refine finIs rfl ?_
  rfl
/- cost.Far -/
set_option maxRecDepth 100000 in
set_option maxHeartbeats 400000 in
theorem cost_FarX  : Triple Try.prog 226 [] [] (Is (.v (.int .u64 18446744073709551615)) []) := by
  refine triple_of Try.func226 rfl (by kernel_rfl) rfl (by simp) ?_
  refine aSeq ?_
  refine aReg ?_
  refine sp pMa ?_
  refine oNil ?_
  refine aSeq ?_
  refine aReg ?_
  refine sp pMa ?_
  refine oNil ?_
  refine aRet ?_
  refine finIs rfl ?_
  rfl
abbrev u64C (x : Int) : List AV := [u64A x]
theorem rep_z64 : ∀ (F : Nat → Prop) (w : World) (j : Nat) (av : AV) (x : Value), ([u64A 0] : List AV)[j]? = some av → (Value.int .u64 0).cells[j]? = some x → Rep F w av x := fun F w j av x h1 h2 => by
  cases j with
  | zero => simp [Value.cells] at h1 h2; subst h1; subst h2; exact .v _
  | succ j => simp at h1
theorem rep_zn : ∀ (F : Nat → Prop) (w : World) (j : Nat) (av : AV) (x : Value), ([.v (.slice none 0 0)] : List AV)[j]? = some av → (Value.slice none 0 0).cells[j]? = some x → Rep F w av x := fun F w j av x h1 h2 => by
  cases j with
  | zero => simp [Value.cells] at h1 h2; subst h1; subst h2; exact .v _
  | succ j => simp at h1
theorem tailV_in {b n c i : Nat} (h : i ≠ c) : tailV (some b) n c i 1 = .slice (some ⟨b, i * 1, none⟩) (n - i) (c - i) := by unfold tailV; rw [if_neg (fun e => h e.symm)]; rfl
def repL (k n : Nat) (x : Int) : List Int := List.replicate k x ++ List.replicate (n - k) 0
theorem repL_copy {k n : Nat} {x : Int} (hk : k ≤ n) : (((repL k n x).map u64C).take k ++ (((repL k n x).map u64C).take (Nat.min k (n - k)) ++ ((repL k n x).map u64C).drop (k + Nat.min k (n - k)))) = (repL (k + Nat.min k (n - k)) n x).map u64C := by
  have hm : Nat.min k (n - k) ≤ k ∧ Nat.min k (n - k) ≤ n - k := ⟨Nat.min_le_left _ _, Nat.min_le_right _ _⟩
  generalize Nat.min k (n - k) = q at *
  rw [← List.map_take, ← List.map_take, ← List.map_drop, ← List.map_append, ← List.map_append]
  congr 1
  unfold repL
  rw [List.take_append_of_le_length (by simp), List.take_append_of_le_length (by simp; omega), List.drop_append]
  simp only [List.take_replicate, List.drop_replicate, List.length_replicate]
  rw [show min k k = k by omega, show min q k = q by omega, show k - (k + q) = 0 by omega, show n - k - (k + q - k) = n - (k + q) by omega]
  simp only [List.replicate_zero, List.nil_append]
  rw [← List.append_assoc, List.replicate_append_replicate]
theorem repL_one {n : Nat} {x : Int} (h : 1 ≤ n) : ((([x] : List Int).map u64C).take (List.replicate n ([u64A 0] : List AV)).length ++ (List.replicate n ([u64A 0] : List AV)).drop (([x] : List Int).map u64C).length) = (repL 1 n x).map u64C := by
  rw [List.length_replicate, List.take_of_length_le (by simp; omega)]
  unfold repL
  rw [List.map_append]
  simp
theorem repL_all (n : Nat) (x : Int) : repL n n x = List.replicate n x := by unfold repL; simp
/- slices.Repeat[[]uint64,uint64] -/
def repeat_64_r9_T : Bool × List (List Nat × List Nat) := (true, [([], []), ([], []), ([], []), ([1, 2], [1, 2]), ([], []), ([], []), ([4, 5], [4, 5]), ([3, 6], [3, 6]), ([0, 7], [0, 7]), ([8, 7, 0, 1, 2, 3, 4, 5, 6, 7, 8], [0, 2, 5, 8])])
def repeat_64_r9_B : List Nat := [0, 0, 0, 6, 0, 0, 48, 126, 255, 511]
theorem repeat_64_r9_t : Go.Proofs.YtmcannmjielalaaW.PrintLast.rtab .any (Go.Proofs.YtmcannmjielalaaW.PrintLast.opsOf Try.f225 9) = repeat_64_r9_T := by kernel_rfl
theorem repeat_64_r9_b : Go.Proofs.YtmcannmjielalaaW.PrintLast.waitsOk repeat_64_r9_T.2 repeat_64_r9_B = true := by kernel_rfl
set_option maxRecDepth 100000 in
set_option maxHeartbeats 2000000 in
theorem repeat_64 {x : Int} {n : Nat} (h1 : 1 ≤ n) (hn : n ≤ 65) : Triple Try.prog 225 [.sl 1 (([x] : List Int).map u64C), .int n] [] (Own 37 1 ((List.replicate n x).map u64C) []) := by
  refine triple_of Try.func225 rfl (by kernel_rfl) rfl (by simp) ?_
  refine aSeq ?_
  refine aReg ?_
  refine sp pMa ?_
  refine oNil ?_
  refine aSeq ?_
  refine aSeq ?_
  refine aReg ?_
  refine sp pM ?_
  refine sp (pBl (by exact pB) (show _ = false from by exact decide_eq_false (by omega))) ?_
  refine oNil ?_
  refine aCondF rfl ?_
  refine aSkip ?_
  refine aSeq ?_
  refine aReg ?_
  refine sp pM ?_
  refine sp (by first | exact pLm sl_54 | exact pLs sl_54) ?_
  refine sp (by first | exact pCvK ik_3 ik_270 | exact pConv rfl rfl ik_3 ik_270 rfl) ?_
  refine sp pM ?_
  refine sp (by first | exact pCvK ik_3 ik_270 | exact pConv rfl rfl ik_3 ik_270 rfl) ?_
  refine sq ?_
  refine ci rfl rfl rfl (bits_Mul (n := n) hn) ?_
  refine sp pM ?_
  refine sp pX ?_
  refine sp pX ?_
  refine sp pMa ?_
  refine sp pMa ?_
  refine oNil ?_
  refine aSeq ?_
  refine aSeq ?_
  refine aReg ?_
  refine sp pM ?_
  refine sp (pBl (by exact pB) (show _ = false from by decide)) ?_
  refine sp pM ?_
  refine gp pM ?_
  refine gp (pBl (by exact pB) (show _ = false from by exact decide_eq_false (by omega))) ?_
  refine sp pK ?_
  refine oNil ?_
  refine aCondF rfl ?_
  refine aSkip ?_
  refine aSeq ?_
  refine aReg ?_
  refine sp pM ?_
  refine sp (by first | exact pCvK ik_270 ik_3 | exact pConv rfl rfl ik_270 ik_3 rfl) ?_
  refine sq ?_
  refine qMake (n := n) (zs := [u64A 0]) rfl rfl (by decide) rfl rfl rfl rfl el_54 ze_37 rfl rfl rep_z64 (by omega) (by omega) (fun b30 => ?_)
  refine sp pMa ?_
  refine oNil ?_
  refine aSeq ?_
  refine aReg ?_
  refine sp pM ?_
  refine sp pM ?_
  refine sa ?_
  refine oCopyS rfl rfl (by decide) rfl (by repeat constructor) (by simp) rfl el_54 ?_
  rw [repL_one h1, show Nat.min (([x] : List Int).map u64C).length (List.replicate n ([u64A 0] : List AV)).length = 1 by rw [List.length_replicate]; exact Nat.min_eq_left h1]
  refine sp pMa ?_
  refine oNil ?_
  refine aSeq ?_
  refine aBlock ?_
  refine loopF (α := Nat) (kept := [(7, _)]) (fun k => 1 ≤ k ∧ k ≤ n) (fun k => [(8, .int k)]) (fun k => [.sl (some b30) n 37 1 ((repL k n x).map u64C)]) (fun k => n - k) 1 ?_ ⟨gInt rfl (by first | rfl | omega | simp), rfl, trivial⟩ (by repeat constructor) ?_
  · skip
    exact ⟨by omega, by omega⟩
  · rintro k ⟨hk1, hk⟩
    refine aSeq ?_
    refine aSeq ?_
    refine aReg ?_
    refine sp pM ?_
    refine sp pM ?_
    refine sp (pLv sl_54) ?_
    refine sp pB ?_
    refine oNil ?_
    refine aCondDec rfl (fun c37 => ?_) (fun c37 => ?_)
    · skip
      refine aSkip ?_
      refine aBlock ?_
      obtain ⟨q, hq⟩ : ∃ q, q = Nat.min k (n - k) := ⟨_, rfl⟩
      have hq1 : q ≤ n - k := by rw [hq]; exact Nat.min_le_right _ _
      have hq2 : 0 < q := by rw [hq]; exact Nat.lt_min.2 ⟨by omega, by omega⟩
      refine aDrawT repeat_64_r9_t repeat_64_r9_b [7] 10 #[false, false, false, false, false, false, false, false, false, false] (by kernel_rfl) rfl rfl (fun HT => ?_)
      refine dp HT 0 rfl pM ?_
      refine dp HT 1 rfl pM ?_
      refine dp HT 2 rfl pM ?_
      refine dp HT 3 rfl (pSlLo rfl rfl es_54 (bdI rfl) (by omega) (by omega)) ?_
      rw [tailV_in (by omega)]
      refine dp HT 4 rfl pM ?_
      refine dp HT 5 rfl pM ?_
      refine dp HT 6 rfl (pSlHi rfl rfl es_54 (bdI rfl) (by omega)) ?_
      refine dGo ?_
      refine eLast ?_
      refine f1 HT 7 rfl ?_
      refine oCopySelf rfl rfl (by decide) rfl rfl .hd (by rw [List.length_map]; unfold repL; simp; omega) (by omega) el_54 ?_
      rw [repL_copy (by omega), ← hq]
      refine fp HT 8 rfl pAd ?_
      refine fp HT 9 rfl pMa ?_
      refine fE HT ?_
      clear HT
      refine ⟨k + q, ?_, by (try dsimp only); omega, ⟨gInt rfl (by first | rfl | omega | simp), rfl, trivial⟩, _, (by repeat constructor)⟩
      omega
    · skip
      refine aExit rfl ?_
      refine aSeq ?_
      refine aReg ?_
      refine sp pM ?_
      refine sp pMa ?_
      refine oNil ?_
      obtain rfl : k = n := by omega
      rw [repL_all]
      refine aRet ?_
      refine finOwn rfl rfl
/- cmp.isNaN[int] -/
set_option maxRecDepth 100000 in
set_option maxHeartbeats 400000 in
theorem cmp_isNaNi {n : Int} : Triple Try.prog 246 [.int n] [] (Is (.v (.bool false)) []) := by
  refine triple_of Try.func246 rfl (by kernel_rfl) rfl (by simp) ?_
  refine aSeq ?_
  refine aReg ?_
  refine sp pMa ?_
  refine oNil ?_
  refine aSeq ?_
  refine aReg ?_
  refine sp pM ?_
  refine sp pM ?_
  refine sp pB ?_
  refine sp pMa ?_
  refine oNil ?_
  refine aRet ?_
  refine finIs rfl ?_
  simp [retOf]
/- cmp.Less[int] -/
set_option maxRecDepth 100000 in
set_option maxHeartbeats 400000 in
theorem cmp_Lessi {a b : Int} : Triple Try.prog 227 [.int a, .int b] [] (Is (.v (.bool (decide (a < b)))) []) := by
  refine triple_of Try.func227 rfl (by kernel_rfl) rfl (by simp) ?_
  refine aSeq ?_
  refine aReg ?_
  refine sp pMa ?_
  refine oNil ?_
  refine aSeq ?_
  refine aReg ?_
  refine sp pM ?_
  refine sq ?_
  refine cv rfl rfl rfl (lents_refl _) cmp_isNaNi ?_
  refine sp pM ?_
  refine oSplit 7 rfl (fun c7 => ?_) (fun c7 => ?_)
  · skip
    refine gp pM ?_
    refine ga ?_
    refine (cv rfl rfl rfl (lents_refl _) cmp_isNaNi ?_).op
    refine gp pNo ?_
    refine sp pK ?_
    refine sp pM ?_
    refine oSplitNot 12 rfl (fun c12 => ?_) (fun c12 => ?_)
    · skip
      refine gf ?_
      refine gf ?_
      refine gf ?_
      refine sp pK ?_
      refine sp pMa ?_
      refine oNil ?_
      refine aRet ?_
      refine finIs rfl ?_
      simp_all [retOf]
    · skip
      refine gp pM ?_
      refine gp pM ?_
      refine gp pB ?_
      refine sp pK ?_
      refine sp pMa ?_
      refine oNil ?_
      refine aRet ?_
      refine finIs rfl ?_
      simp_all [retOf]
  · skip
    refine gf ?_
    refine gf ?_
    refine gf ?_
    refine sp pK ?_
    refine sp pM ?_
    refine gp pM ?_
    refine gp pM ?_
    refine gp pB ?_
    refine sp pK ?_
    refine sp pMa ?_
    refine oNil ?_
    refine aRet ?_
    refine finIs rfl ?_
    simp_all [retOf]
theorem half {i j : Nat} (h : i < j) : i ≤ (i + j) / 2 ∧ (i + j) / 2 < j := by omega
theorem srt_lt {l : List Int} (hs : l.Pairwise (· < ·)) {i j : Nat} {x y : Int} (hx : l[i]? = some x) (hy : l[j]? = some y) (h : x < y) : i < j := by
  obtain ⟨h1, rfl⟩ := List.getElem?_eq_some_iff.1 hx
  obtain ⟨h2, rfl⟩ := List.getElem?_eq_some_iff.1 hy
  rcases Nat.lt_trichotomy i j with e | e | e
  · exact e
  · subst e; omega
  · have := List.pairwise_iff_getElem.1 hs j i h2 h1 e; omega
theorem srt_le {l : List Int} (hs : l.Pairwise (· < ·)) {i j : Nat} {x y : Int} (hx : l[i]? = some x) (hy : l[j]? = some y) (h : ¬ x < y) : j ≤ i := by
  obtain ⟨h1, rfl⟩ := List.getElem?_eq_some_iff.1 hx
  obtain ⟨h2, rfl⟩ := List.getElem?_eq_some_iff.1 hy
  rcases Nat.lt_trichotomy i j with e | e | e
  · have := List.pairwise_iff_getElem.1 hs i j h1 h2 e; omega
  · omega
  · omega
/- slices.BinarySearch[[]int,int] -/
set_option maxRecDepth 100000 in
set_option maxHeartbeats 2000000 in
theorem bsearch {l : List Int} {t : Int} {p : Nat} (hs : l.Pairwise (· < ·)) (hl : l.length ≤ 1000000) (hp : l[p]? = some t) : Triple Try.prog 134 [.sl 1 (l.map intA), .int t] [] (Is (.tup [.int p, .v (.bool true)]) []) := by
  have hpl := (List.getElem?_eq_some_iff.1 hp).1
  refine triple_of Try.func134 rfl (by kernel_rfl) rfl (by simp) ?_
  refine aSeq ?_
  refine aReg ?_
  refine sp pMa ?_
  refine sp pMa ?_
  refine oNil ?_
  refine aSeq ?_
  refine aReg ?_
  refine sp pM ?_
  refine sp (by first | exact pLm sl_25 | exact pLs sl_25) ?_
  refine sp pMa ?_
  refine oNil ?_
  refine aSeq ?_
  refine aReg ?_
  refine sp pM ?_
  refine sp pMa ?_
  refine sp pMa ?_
  refine oNil ?_
  refine aSeq ?_
  refine aBlock ?_
  refine loopF (α := Nat × Nat) (kept := [(0, _), (1, _), (6, _)]) (fun (i, j) => i ≤ p ∧ p ≤ j ∧ j ≤ l.length) (fun (i, j) => [(7, .int i), (8, .int j)]) (fun (i, j) => []) (fun (i, j) => j - i) (0, l.length) ?_ ⟨gInt rfl (by first | rfl | omega | simp), gInt rfl (by first | rfl | omega | simp), rfl, rfl, rfl, trivial⟩ (by repeat constructor) ?_
  · skip
    exact ⟨by omega, by omega, by omega⟩
  · rintro ⟨i, j⟩ ⟨h1, h2, h3⟩
    refine aSeq ?_
    refine aSeq ?_
    refine aReg ?_
    refine sp pM ?_
    refine sp pM ?_
    refine sp pB ?_
    refine oNil ?_
    refine aCondDec rfl (fun c15 => ?_) (fun c15 => ?_)
    · skip
      refine aSkip ?_
      refine aBlock ?_
      refine aSeq ?_
      have hh := half (i := i) (j := j) (by omega)
      obtain ⟨x, hx⟩ : ∃ z, l[((i + j) / 2)]? = some z := ⟨_, List.getElem?_eq_getElem (by omega)⟩
      have hx2 : l[(((i + j) / 2 : Nat) : Int).toNat]? = some x := by rw [Int.toNat_natCast]; exact hx
      refine aReg ?_
      refine sp pM ?_
      refine sp pM ?_
      refine sp pAd ?_
      refine sp (by first | exact pCvK ik_3 ik_270 | exact pConv rfl rfl ik_3 ik_270 rfl) ?_
      refine sp (pShrN (a := i + j) (r := 1) rfl rfl rfl rfl (by decide)) ?_
      refine sp (by first | exact pCvK ik_270 ik_3 | exact pConv rfl rfl ik_270 ik_3 rfl) ?_
      refine sp pMa ?_
      refine oNil ?_
      refine aSeq ?_
      refine aReg ?_
      refine sp pM ?_
      refine sp pM ?_
      first | refine sp (pIx es_25) ?_ | (refine obtSN 22 23 rfl rfl (by omega) (fun x24 hx24 => ?_); refine sp (pIs es_25 hx24) ?_) | (refine obtS 22 23 rfl rfl (by omega) (by omega) (fun x24 hx24 => ?_); refine sp (pIs es_25 hx24) ?_) | refine sp (pIo es_25) ?_
      refine sr (rS1 ty_3) ?_
      refine sp pM ?_
      refine sq ?_
      refine cv rfl rfl rfl (lents_refl _) (cmp_Lessi (a := x) (b := t)) ?_
      refine oNil ?_
      refine aCond rfl (fun c27 => ?_) (fun c27 => ?_)
      · skip
        refine aReg ?_
        refine sp pM ?_
        refine sp pAd ?_
        refine sp pMa ?_
        refine oNil ?_
        first
          | (refine ⟨((i + j) / 2 + 1, j), ?_, by (try dsimp only); omega, ⟨gInt rfl (by first | rfl | omega | simp), gInt rfl (by first | rfl | omega | simp), rfl, rfl, rfl, trivial⟩, _, (by repeat constructor)⟩
             have := srt_lt hs hx hp (of_decide_eq_true (by assumption))
             exact ⟨by omega, by omega, by omega⟩)
          | (refine ⟨(i, (i + j) / 2), ?_, by (try dsimp only); omega, ⟨gInt rfl (by first | rfl | omega | simp), gInt rfl (by first | rfl | omega | simp), rfl, rfl, rfl, trivial⟩, _, (by repeat constructor)⟩
             have := srt_le hs hx hp (of_decide_eq_false (by assumption))
             exact ⟨by omega, by omega, by omega⟩)
      · skip
        refine aReg ?_
        refine sp pM ?_
        refine sp pMa ?_
        refine oNil ?_
        first
          | (refine ⟨((i + j) / 2 + 1, j), ?_, by (try dsimp only); omega, ⟨gInt rfl (by first | rfl | omega | simp), gInt rfl (by first | rfl | omega | simp), rfl, rfl, rfl, trivial⟩, _, (by repeat constructor)⟩
             have := srt_lt hs hx hp (of_decide_eq_true (by assumption))
             exact ⟨by omega, by omega, by omega⟩)
          | (refine ⟨(i, (i + j) / 2), ?_, by (try dsimp only); omega, ⟨gInt rfl (by first | rfl | omega | simp), gInt rfl (by first | rfl | omega | simp), rfl, rfl, rfl, trivial⟩, _, (by repeat constructor)⟩
             have := srt_le hs hx hp (of_decide_eq_false (by assumption))
             exact ⟨by omega, by omega, by omega⟩)
    · skip
      refine aExit rfl ?_
      refine aSeq ?_
      refine aReg ?_
      refine sp pM ?_
      refine sp pM ?_
      refine sp pM ?_
      refine sp (pBl (by exact pB) (show _ = true from by exact decide_eq_true (by omega))) ?_
      refine sp pM ?_
      have hpi : i = p := by omega
      have hx3 : l[((i : Nat) : Int).toNat]? = some t := by rw [Int.toNat_natCast, hpi]; exact hp
      refine gp pM ?_
      refine gp pM ?_
      first | refine gp (pIx es_25) ?_ | (refine obtSN 36 37 rfl rfl (by omega) (fun x38 hx38 => ?_); refine gp (pIs es_25 hx38) ?_) | (refine obtS 36 37 rfl rfl (by omega) (by omega) (fun x38 hx38 => ?_); refine gp (pIs es_25 hx38) ?_) | refine gp (pIo es_25) ?_
      refine gr (rS1 ty_3) ?_
      refine gp pM ?_
      refine gp (pBl (by exact pB) (show _ = true from by simp)) ?_
      refine gp pM ?_
      refine gf ?_
      refine gf ?_
      refine gf ?_
      refine gf ?_
      refine gf ?_
      refine gf ?_
      refine gf ?_
      refine gf ?_
      refine gf ?_
      refine gp pK ?_
      refine sp pK ?_
      refine sp pMa ?_
      refine sp pMa ?_
      refine oNil ?_
      refine aRet ?_
      refine finIs rfl ?_
      have hpi : i = p := by omega
      rw [hpi]
      rfl
end A
end Go.Proofs.Ytmcannmjielalaa
set_option linter.unusedVariables false
set_option linter.unusedSimpArgs false
namespace Go.Proofs.Ytmcannmjielalaa
namespace A
theorem el_51 : elemOf Try.prog 51 = some (54, 1, 24) := by kernel_rfl
theorem es_51 : elemSize Try.prog 51 = some 1 := by kernel_rfl
theorem sl_51 : isSl Try.prog 51 = true := by kernel_rfl
theorem ty_54 : tyOf Try.prog 54 = some (1, false) := by kernel_rfl
theorem us_54 : Try.prog.underlying 54 = some (.slice 37) := by kernel_rfl
theorem ze_54 : zeroOf Try.prog 54 = some (.slice none 0 0) := by kernel_rfl
def rowH (bb cc : Nat → Nat) (n : Nat) (i : Nat) : List AV := [.v (slV (some (bb i)) n (cc i))]
def m0X (i k : Nat) : Int := if i = k then 0 else 18446744073709551615
def outP (bb cc : Nat → Nat) (n i : Nat) : List (List AV) := (List.range n).map fun j => if j < i then [.v (slV (some (bb j)) n (cc j))] else [.v (.slice none 0 0)]
theorem outP_zero (bb cc : Nat → Nat) (n : Nat) : List.replicate n ([.v (.slice none 0 0)] : List AV) = outP bb cc n 0 := by
  unfold outP
  apply List.ext_getElem
  · simp
  · intro j h1 h2
    simp
theorem outP_at {bb cc : Nat → Nat} {n i : Nat} (h : i < n) : (outP bb cc n i)[i]? = some [.v (.slice none 0 0)] := by
  unfold outP
  rw [List.getElem?_map, List.getElem?_range h]
  simp
theorem outP_set {bb cc : Nat → Nat} {n i b c : Nat} (h : i < n) : (outP bb cc n i).set i [.v (slV (some b) n c)] = outP (fn1 bb i b) (fn1 cc i c) n (i + 1) := by
  unfold outP
  apply List.ext_getElem?
  intro j
  rw [List.getElem?_set, List.length_map, List.length_range, List.getElem?_map, List.getElem?_map]
  by_cases hj : j < n
  · rw [List.getElem?_range hj]
    by_cases e : i = j
    · subst e
      rw [if_pos rfl, if_pos hj]
      simp [fn1]
    · rw [if_neg e]
      have e2 : ¬ j = i := fun e' => e e'.symm
      simp only [Option.map_some, fn1, e2, if_false]
      by_cases h3 : j < i
      · rw [if_pos h3, if_pos (by omega)]
      · rw [if_neg h3, if_neg (by omega)]
  · rw [List.getElem?_eq_none (by simpa using hj)]
    by_cases e : i = j
    · omega
    · rw [if_neg e]; rfl
theorem outP_all {bb cc : Nat → Nat} {n : Nat} : outP bb cc n n = (List.range n).map (rowH bb cc n) := by
  unfold outP rowH
  exact List.map_congr_left (fun j hj => by rw [List.mem_range] at hj; rw [if_pos hj])
theorem fam_step {bb cc : Nat → Nat} {M : Nat → Nat → Int} {n i b c : Nat} : ((some b, c, rowU M n i) :: famX bb cc M n i).Perm (famX (fn1 bb i b) (fn1 cc i c) M n (i + 1)) := by
  unfold famX
  rw [List.range_succ, List.map_append]
  have e : (List.range i).map (fun j => (some (fn1 bb i b j), fn1 cc i c j, rowU M n j)) = (List.range i).map (fun j => (some (bb j), cc j, rowU M n j)) := List.map_congr_left (fun j hj => by
    rw [List.mem_range] at hj
    have : ¬ j = i := by omega
    simp [fn1, this])
  rw [e]
  have e2 : [i].map (fun j => (some (fn1 bb i b j), fn1 cc i c j, rowU M n j)) = [(some b, c, rowU M n i)] := by simp [fn1]
  rw [e2]
  exact (List.perm_append_singleton _ _).symm
theorem row_m0 {n i : Nat} (h : i < n) : ((List.replicate n (18446744073709551615 : Int)).set ((i : Nat) : Int).toNat 0).map u64C = rowU m0X n i := by
  rw [Int.toNat_natCast]
  unfold rowU
  congr 1
  apply List.ext_getElem?
  intro j
  rw [List.getElem?_set, List.length_replicate, List.getElem?_map]
  by_cases hj : j < n
  · rw [List.getElem?_range hj]
    by_cases e : i = j
    · subst e; rw [if_pos rfl, if_pos hj]; simp [m0X]
    · rw [if_neg e, List.getElem?_replicate, if_pos hj]; simp [m0X, e]
  · rw [List.getElem?_eq_none (by simpa using hj)]
    by_cases e : i = j
    · omega
    · rw [if_neg e, List.getElem?_eq_none (by simpa using hj)]; rfl
/- matrix.blank -/
set_option maxRecDepth 100000 in
set_option maxHeartbeats 2000000 in
theorem mx_blank {n : Nat} (h1 : 1 ≤ n) (hn : n ≤ 65) : Triple Try.prog 133 [.int n] [] (fun q h' => ∃ bm bb cc, q = .v (slV (some bm) n n) ∧ h' = [.sl (some bm) n 54 1 ((List.range n).map (rowH bb cc n)), .fam 37 1 (famX bb cc m0X n n)]) := by
  refine triple_of Try.func133 rfl (by kernel_rfl) rfl (by simp) ?_
  refine aSeq ?_
  refine aReg ?_
  refine sp pMa ?_
  refine oNil ?_
  refine aSeq ?_
  refine aReg ?_
  refine sp pM ?_
  refine sq ?_
  refine qMake (n := n) (zs := [.v (.slice none 0 0)]) rfl rfl (by decide) rfl rfl rfl rfl el_51 ze_54 rfl rfl rep_zn (by omega) (by omega) (fun b6 => ?_)
  rw [outP_zero (fun _ => 0) (fun _ => 0) n]
  refine sp pMa ?_
  refine oNil ?_
  refine aSeq ?_
  refine aSeq ?_
  refine aWeak (weak_famNew 37 1) ?_
  refine aReg ?_
  refine sp pM ?_
  refine sp (pLv sl_51) ?_
  refine sp pM ?_
  refine oNil ?_
  refine aBlock ?_
  refine loopF (α := Nat × (Nat → Nat) × (Nat → Nat)) (kept := [(0, _), (3, _), (8, _)]) (fun (i, bb, cc) => i ≤ n) (fun (i, bb, cc) => [(9, .int i)]) (fun (i, bb, cc) => [.sl (some b6) n 54 1 (outP bb cc n i), .fam 37 1 (famX bb cc m0X n i)]) (fun (i, bb, cc) => n - i) (0, fun _ => 0, fun _ => 0) ?_ ⟨gInt rfl (by first | rfl | omega | simp), rfl, rfl, rfl, trivial⟩ (by repeat constructor) ?_
  · skip
    omega
  · rintro ⟨i, bb, cc⟩ hi
    refine aSeq ?_
    refine aReg ?_
    refine sp pB ?_
    refine oNil ?_
    refine aSeq ?_
    refine aCondDec rfl (fun c10 => ?_) (fun c10 => ?_)
    · skip
      refine aSkip ?_
      refine aSeq ?_
      refine aBlock ?_
      refine aSeq ?_
      have hin : i < n := by omega
      refine aReg ?_
      refine sp pM ?_
      refine sp pMa ?_
      refine oNil ?_
      refine aSeq ?_
      refine aReg ?_
      refine sp pM ?_
      refine sp pM ?_
      refine sq ?_
      refine cv rfl rfl rfl (lents_refl _) cost_FarX ?_
      refine sq ?_
      refine qLit (l := [_]) rfl rfl (by decide) us_54 ty_37 ze_37 rfl (by decide) (by decide) rfl rfl rfl (fun b15 => ?_)
      refine oWeak (weak_settle (k := 15) rfl (by repeat constructor) (by simp)) ?_
      refine sp pM ?_
      refine sa ?_
      first | refine coM rfl rfl rfl (repeat_64 (x := 18446744073709551615) (n := n) h1 hn) (fun g17 k17 => ?_) | refine co rfl rfl rfl (repeat_64 (x := 18446744073709551615) (n := n) h1 hn) (fun g17 k17 => ?_)
      refine sp (pIo es_51) ?_
      refine sa ?_
      refine oStS (i := i) (j := 0) rfl rfl rfl rfl (by repeat constructor) ty_54 rfl (by omega) (outP_at hin) (by decide) rfl ?_
      refine oNil ?_
      rw [List.length_replicate]
      refine aSome (g := g17) (by repeat constructor) (by intro e; have := congrArg List.length e; rw [List.length_map, List.length_replicate] at this; simp at this; omega) (fun b17 hb17 => ?_)
      subst hb17
      rw [show (outP bb cc n i).set i (setCells [.v (.slice none 0 0)] 0 (avCells (.v (slV (some b17) n k17)))) = outP (fn1 bb i b17) (fn1 cc i k17) n (i + 1) from outP_set hin]
      refine aReg ?_
      refine sp pM ?_
      refine sp pM ?_
      refine sp (pIo es_51) ?_
      refine sr (rO1 (l := List.range n) (fC := fun j => if j < i + 1 then [.v (slV (some (fn1 bb i b17 j)) n (fn1 cc i k17 j))] else [.v (.slice none 0 0)]) (a := i) (i := (i : Int)) (av := .v (slV (some b17) n k17)) ty_54 (by rw [Int.toNat_natCast, List.getElem?_range hin]) rfl rfl (by repeat constructor) (by rw [if_pos (by omega)]; simp [fn1])) ?_
      refine sp pM ?_
      first | refine sp (pIx es_54) ?_ | (refine obtSN 22 23 rfl rfl (by omega) (fun x24 hx24 => ?_); refine sp (pIs es_54 hx24) ?_) | (refine obtS 22 23 rfl rfl (by omega) (by omega) (fun x24 hx24 => ?_); refine sp (pIs es_54 hx24) ?_) | refine sp (pIo es_54) ?_
      refine sa ?_
      refine oStE (fC := u64C) (l := List.replicate n 18446744073709551615) (a := 0) (i := (i : Int)) rfl rfl rfl rfl ty_37 ?_ (hi := by rw [Int.toNat_natCast, List.length_replicate]; exact hin)
      refine oNil ?_
      rw [row_m0 hin]
      refine aWeak (weak_famPut (by repeat constructor) fam_step) ?_
      refine aReg ?_
      refine sp pAd ?_
      refine sp pM ?_
      refine oNil ?_
      refine ⟨(i + 1, _, _), ?_, by (try dsimp only); omega, ⟨gInt rfl (by first | rfl | omega | simp), rfl, rfl, rfl, trivial⟩, _, (by repeat constructor)⟩
      omega
    · skip
      refine aExit rfl ?_
      refine aSeq ?_
      refine aReg ?_
      refine sp pM ?_
      refine sp pMa ?_
      refine oNil ?_
      obtain rfl : i = n := by omega
      dsimp only
      rw [outP_all]
      refine aRet ?_
      exact ⟨_, _, _, rfl, (by repeat constructor), b6, bb, cc, rfl, rfl⟩
end A
end Go.Proofs.Ytmcannmjielalaa
set_option linter.unusedVariables false
set_option linter.unusedSimpArgs false
namespace Go.Proofs.Ytmcannmjielalaa
namespace A
def rowS (M : Nat → Nat → Int) (n i : Nat) : List AV := [.sl 1 (rowU M n i)]
theorem tk_pre : ∀ (l r : List HA), Tk (l ++ r) l r
  | [], r => .nil
  | x :: l, r => .cons .hd (tk_pre l r)
theorem deep_rows {hd : List HA} {bb cc : Nat → Nat} {M : Nat → Nat → Int} {n : Nat} : ∀ L : List Nat, (∀ i ∈ L, HA.sl (some (bb i)) (cc i) 37 1 (rowU M n i) ∈ hd) → Deep hd (L.map (rowH bb cc n)) (L.map (rowS M n))
  | [], _ => .nil
  | i :: L, h => .sl (h i (by simp)) (rowU_len M n i).symm Deep.refl (.row (deep_rows L (fun j hj => h j (List.mem_cons_of_mem _ hj))))
theorem weak_mxSettle {N : Nat} {env : Env} {h h' : List HA} {k bm n : Nat} {bb cc : Nat → Nat} {M : Nat → Nat → Int} (hk : get env k = some (.v (slV (some bm) n n))) (hs : Tk h [.sl (some bm) n 54 1 ((List.range n).map (rowH bb cc n)), .fam 37 1 (famX bb cc M n n)] h') : Weak N env h ((k, .sl 1 ((List.range n).map (rowS M n))) :: env) h' := by
  have w1 : Weak N env h env ((HA.sl (some bm) n 54 1 ((List.range n).map (rowH bb cc n)) :: (List.range n).map (fun i => HA.sl (some (bb i)) (cc i) 37 1 (rowU M n i))) ++ h') := by
    refine weak_same ?_ (fun F w hh x hx => ?_)
    · refine (owns_perm hs.perm).trans ?_
      rw [owns_append, owns_append]
      refine List.Perm.append_right _ ?_
      rw [owns_cons, owns_cons, owns_cons, owns_nil, List.append_nil]
      refine List.Perm.append_left _ ?_
      refine List.Perm.of_eq ?_
      rw [own_fam]
      unfold famX owns
      rw [List.flatMap_map, List.flatMap_map]
      rfl
    · have hm : ∀ x, x ∈ ([.sl (some bm) n 54 1 ((List.range n).map (rowH bb cc n)), .fam 37 1 (famX bb cc M n n)] : List HA) ++ h' → x ∈ h := fun x hx => hs.perm.mem_iff.2 hx
      rcases List.mem_append.1 hx with hx | hx
      · rcases List.mem_cons.1 hx with rfl | hx
        · exact hh _ (hm _ (by simp))
        · obtain ⟨i, hi, rfl⟩ := List.mem_map.1 hx
          have hf : HARep F w (.fam 37 1 (famX bb cc M n n)) := hh _ (hm _ (by simp))
          exact hf (some (bb i), cc i, rowU M n i) (List.mem_map.2 ⟨i, hi, rfl⟩)
      · exact hh x (hm x (List.mem_append_right _ hx))
  refine w1.trans (weak_deep (hd := HA.sl (some bm) n 54 1 ((List.range n).map (rowH bb cc n)) :: (List.range n).map (fun i => HA.sl (some (bb i)) (cc i) 37 1 (rowU M n i))) hk (tk_pre _ _) ?_)
  exact .sl List.mem_cons_self (by simp) (deep_rows _ (fun i hi => List.mem_cons_of_mem _ (List.mem_map.2 ⟨i, hi, rfl⟩))) (.row .nil)
def nodesV (l : List Arc) : List Int := if arcsB none l then nodesM l else []
theorem mx_Nodes {l : List Arc} (hl : l.length ≤ 1000000 := by omega) : Triple Try.prog 29 [.sl 3 (l.map arcC)] [] (Is (.sl 1 ((nodesV l).map intA)) []) := (graph_Nodes (l := l) hl).settle
theorem nodesV_len (l : List Arc) : (nodesV l).length ≤ 65 := by
  unfold nodesV
  split
  · exact nodesM_len l
  · simp
def nsV (l : List Arc) (i : Nat) : Int := (nodesV l).getD i 0
theorem nsV_at {l : List Arc} {i : Nat} {x : Int} (h : (nodesV l)[i]? = some x) : nsV l i = x := by unfold nsV; rw [List.getD, h]; rfl
theorem nsV_get {l : List Arc} {i : Nat} (h : i < (nodesV l).length) : (nodesV l)[i]? = some (nsV l i) := by rw [List.getElem?_eq_getElem h]; unfold nsV; rw [List.getD, List.getElem?_eq_getElem h]; rfl
structure NsV (l : List Arc) : Prop where
  ok : arcsB none l = true
  srt : (nodesV l).Pairwise (· < ·)
  rng : ∀ i, i < (nodesV l).length → 1 ≤ nsV l i ∧ nsV l i ≤ 64
  inj : ∀ i k, i < (nodesV l).length → k < (nodesV l).length → nsV l i = nsV l k → i = k
  at_ : ∀ v, (∃ a ∈ l, a.f = v ∨ a.t = v) → ∃ p : Nat, (nodesV l)[p]? = some v
theorem nsV_of {l : List Arc} (h : (nodesV l).length ≠ 0) : NsV l := by
  have hok : arcsB none l = true := by
    cases hb : arcsB none l with
    | true => rfl
    | false => unfold nodesV at h; rw [hb] at h; simp at h
  have hl := arcs_ok hok
  have e : nodesV l = nodesM l := by unfold nodesV; rw [if_pos hok]
  have hs : (nodesV l).Pairwise (· < ·) := by rw [e]; exact nodesM_sorted l
  refine ⟨hok, hs, fun i hi => ?_, fun i k hi hk he => ?_, fun v hv => ?_⟩
  · have := List.mem_of_getElem? (nsV_get hi)
    rw [e] at this
    exact nodesM_rng hl this
  · have h1 := nsV_get hi
    have h2 := nsV_get hk
    rw [he] at h1
    have a1 := srt_le hs h1 h2 (by omega)
    have a2 := srt_le hs h2 h1 (by omega)
    omega
  · rw [e]
    exact List.mem_iff_getElem?.1 ((nodesM_mem hl).2 hv)
theorem MSnd.zero (l : List Arc) (ns : Nat → Int) (n : Nat) : MSnd l ns n m0X := by
  refine ⟨fun i k _ _ => ?_, fun i k _ _ => ?_, fun i _ => ?_⟩
  · unfold m0X farI; split <;> omega
  · unfold m0X farI
    split
    · rename_i e; subst e; exact .inr .refl
    · exact .inl rfl
  · simp [m0X]
theorem MSnd.arc {l : List Arc} (hl : ∀ a ∈ l, AOk a) {ns : Nat → Int} {n : Nat} {M : MxF} (I : MSnd l ns n M) {a : Arc} (ha : a ∈ l) {p q : Nat} (hp : p < n) (hq : q < n) (e1 : ns p = a.f) (e2 : ns q = a.t) : MSnd l ns n (updX M p q (min (M p q) a.c)) := by
  have hk := hl a ha
  unfold AOk at hk
  have hpq : p ≠ q := fun e => by subst e; exact hk.2.2.2.2.1 (e1.symm.trans e2)
  have h1 := I.rng p q hp hq
  refine ⟨fun x y hx hy => ?_, fun x y hx hy => ?_, fun x hx => ?_⟩
  · unfold updX
    split
    · omega
    · exact I.rng x y hx hy
  · unfold updX
    split
    · rename_i h
      obtain ⟨rfl, rfl⟩ := h
      by_cases hlt : M x y ≤ a.c
      · rw [Int.min_eq_left hlt]; exact I.snd x y hx hy
      · rw [Int.min_eq_right (by omega), e1, e2]
        have := Wk.step (l := l) (r := a.f) .refl ha rfl
        rw [Int.zero_add] at this
        exact .inr this
    · exact I.snd x y hx hy
  · unfold updX
    rw [if_neg (by omega)]
    exact I.dia x hx
def MArc (l : List Arc) (ns : Nat → Int) (n : Nat) (m : List Arc) (M : MxF) : Prop := ∀ a ∈ m, ∀ i k, i < n → k < n → ns i = a.f → ns k = a.t → M i k ≤ a.c
theorem MArc.step {l m : List Arc} {ns : Nat → Int} {n : Nat} (hinj : ∀ i k, i < n → k < n → ns i = ns k → i = k) {M : MxF} {a : Arc} (h : MArc l ns n m M) {p q : Nat} (hp : p < n) (hq : q < n) (e1 : ns p = a.f) (e2 : ns q = a.t) : MArc l ns n (m ++ [a]) (updX M p q (min (M p q) a.c)) := fun b hb i k hi hk f1 f2 => by
  unfold updX
  rcases List.mem_append.1 hb with hb | hb
  · have := h b hb i k hi hk f1 f2
    split
    · rename_i e; obtain ⟨rfl, rfl⟩ := e; omega
    · exact this
  · rw [List.mem_singleton.1 hb] at f1 f2
    rw [List.mem_singleton.1 hb]
    have g1 := hinj i p hi hp (f1.trans e1.symm)
    have g2 := hinj k q hk hq (f2.trans e2.symm)
    rw [if_pos ⟨g1, g2⟩]
    omega
theorem MArc.dom {l : List Arc} {ns : Nat → Int} {n : Nat} {M : MxF} (h : MArc l ns n l M) : MDom l ns n 0 M := fun i k c hi hk hw => by
  obtain ⟨a, ha, h1, h2, h3⟩ := hw.none (fun u ⟨j, hj, _⟩ => by omega)
  rw [← h3]
  exact h a ha i k hi hk h1.symm h2.symm
def dMx (l : List Arc) (i k : Nat) : Int := if isF l (nsV l i) (nsV l k) then dF l (nsV l i) (nsV l k) else farI
def mxR (l : List Arc) : List (List AV) := (List.range (nodesV l).length).map (rowS (dMx l) (nodesV l).length)
theorem mx_rows {l : List Arc} (hll : l.length ≤ 1000000) (V : NsV l) {M : MxF} (I : MSnd l (nsV l) (nodesV l).length M) (hd : MDom l (nsV l) (nodesV l).length (nodesV l).length M) : (List.range (nodesV l).length).map (rowS M (nodesV l).length) = mxR l := by
  unfold mxR
  refine List.map_congr_left (fun i hi => ?_)
  rw [List.mem_range] at hi
  unfold rowS rowU
  congr 3
  refine List.map_congr_left (fun k hk => ?_)
  rw [List.mem_range] at hk
  exact mx_end (arcs_ok V.ok) hll V.rng V.inj (fun a ha => by
    obtain ⟨p, hp⟩ := V.at_ a.f ⟨a, ha, .inl rfl⟩
    exact ⟨p, (List.getElem?_eq_some_iff.1 hp).1, nsV_at hp⟩) I hd hi hk
/- matrix.Of -/
def mx_Of_r10_T : Bool × List (List Nat × List Nat) := (true, [([], []), ([], []), ([0, 1], [0, 1]), ([2], [2]), ([], []), ([], []), ([], []), ([5, 6], [5, 6]), ([7], [7]), ([], []), ([8, 9], [8, 9]), ([10], [10]), ([], []), ([12], [12]), ([13], [13]), ([11, 14], [11, 14]), ([3, 4, 0, 1, 2, 3, 4, 5, 6, 7, 8, 9, 10, 11, 12, 13, 14, 15], [3, 4]), ([16, 15, 0, 1, 2, 3, 4, 5, 6, 7, 8, 9, 10, 11, 12, 13, 14, 15], [15, 16])])
def mx_Of_r10_B : List Nat := [0, 0, 3, 7, 0, 0, 0, 96, 224, 0, 992, 2016, 0, 4096, 12288, 32736, 65535, 131071]
theorem mx_Of_r10_t : Go.Proofs.YtmcannmjielalaaW.PrintLast.rtab .any (Go.Proofs.YtmcannmjielalaaW.PrintLast.opsOf Try.f49 10) = mx_Of_r10_T := by kernel_rfl
theorem mx_Of_r10_b : Go.Proofs.YtmcannmjielalaaW.PrintLast.waitsOk mx_Of_r10_T.2 mx_Of_r10_B = true := by kernel_rfl
def mx_Of_r21_T : Bool × List (List Nat × List Nat) := (true, [([], []), ([], []), ([0, 1], [0, 1]), ([2], [2]), ([], []), ([], []), ([], []), ([5, 6], [5, 6]), ([7], [7]), ([], []), ([8, 9], [8, 9]), ([10], [10]), ([], []), ([], []), ([12, 13], [12, 13]), ([14], [14]), ([], []), ([15, 16], [15, 16]), ([17], [17]), ([], []), ([], []), ([19, 20], [19, 20]), ([21], [21]), ([], []), ([22, 23], [22, 23]), ([24], [24]), ([18, 25], [18, 25]), ([11, 26], [11, 26]), ([3, 4, 0, 1, 2, 3, 4, 5, 6, 7, 8, 9, 10, 11, 12, 13, 14, 15, 16, 17, 18, 19, 20, 21, 22, 23, 24, 25, 26, 27], [3, 4]), ([28, 27, 26, 0, 1, 2, 3, 4, 5, 6, 7, 8, 9, 10, 11, 12, 13, 14, 15, 16, 17, 18, 19, 20, 21, 22, 23, 24, 25, 26, 27], [27, 28])])
def mx_Of_r21_B : List Nat := [0, 0, 3, 7, 0, 0, 0, 96, 224, 0, 992, 2016, 0, 0, 12288, 28672, 0, 126976, 258048, 0, 0, 1572864, 3670016, 0, 16252928, 33030144, 67104768, 134217696, 268435455, 536870911]
theorem mx_Of_r21_t : Go.Proofs.YtmcannmjielalaaW.PrintLast.rtab .any (Go.Proofs.YtmcannmjielalaaW.PrintLast.opsOf Try.f49 21) = mx_Of_r21_T := by kernel_rfl
theorem mx_Of_r21_b : Go.Proofs.YtmcannmjielalaaW.PrintLast.waitsOk mx_Of_r21_T.2 mx_Of_r21_B = true := by kernel_rfl
set_option maxRecDepth 100000 in
set_option maxHeartbeats 8000000 in
theorem mx_Of {l : List Arc} (hll : l.length ≤ 1000000) : Triple Try.prog 49 [.sl 3 (l.map arcC)] [] (Is (.tup [.sl 1 ((nodesV l).map intA), .sl 1 (mxR l)]) []) := by
  have hnl := nodesV_len l
  refine triple_of Try.func49 rfl (by kernel_rfl) rfl (by simp) ?_
  refine aSeq ?_
  refine aReg ?_
  refine sp pMa ?_
  refine sp pMa ?_
  refine oNil ?_
  refine aSeq ?_
  refine aReg ?_
  refine sp pM ?_
  refine sq ?_
  refine ci rfl rfl rfl (mx_Nodes (l := l) hll) ?_
  refine sp pMa ?_
  refine oNil ?_
  refine aSeq ?_
  refine aSeq ?_
  refine aReg ?_
  refine sp pM ?_
  refine sp (by first | exact pLm sl_25 | exact pLs sl_25 | exact pLv sl_25) ?_
  refine sp pB ?_
  refine oNil ?_
  refine aCondEq rfl (fun c19 => ?_) (fun c19 => ?_)
  · skip
    refine aSeq ?_
    have hz : nodesV l = [] := List.eq_nil_of_length_eq_zero (by omega)
    refine aWeak (weak_nil 3 1) ?_
    refine aWeak (weak_nil 54 1) ?_
    refine aReg ?_
    refine sp pMa ?_
    refine sp pMa ?_
    refine oNil ?_
    refine aWeak (weak_settle (k := 2) (e := 3) (sz := 1) rfl (by repeat constructor) rfl) ?_
    refine aWeak (weak_settle (k := 3) (e := 54) (sz := 1) rfl (by repeat constructor) rfl) ?_
    refine aRet ?_
    refine finIs rfl ?_
    unfold mxR
    rw [hz]
    rfl
  · skip
    refine aSkip ?_
    refine aSeq ?_
    have V := nsV_of (l := l) (by omega)
    have hl := arcs_ok V.ok
    refine aReg ?_
    refine sp pM ?_
    refine sp (by first | exact pLm sl_25 | exact pLs sl_25 | exact pLv sl_25) ?_
    refine sa ?_
    refine ca rfl rfl rfl (mx_blank (n := (nodesV l).length) (by omega) hnl) ?_
    rintro _ _ ⟨bm, bb, cc, rfl, rfl⟩
    refine sp pMa ?_
    refine oNil ?_
    refine aSeq ?_
    refine aSeq ?_
    refine aReg ?_
    refine sp pM ?_
    refine sp (by first | exact pLm sl_22 | exact pLs sl_22) ?_
    refine sp pM ?_
    refine oNil ?_
    refine aBlock ?_
    refine loopF (α := Nat × MxF) (kept := [(4, _), (5, _), (23, _), (24, _)]) (fun (j, M) => j ≤ l.length ∧ MSnd l (nsV l) (nodesV l).length M ∧ MArc l (nsV l) (nodesV l).length (l.take j) M) (fun (j, M) => [(25, .int j)]) (fun (j, M) => [.sl (some bm) (nodesV l).length 54 1 ((List.range (nodesV l).length).map (rowH bb cc (nodesV l).length)), .fam 37 1 (famX bb cc M (nodesV l).length (nodesV l).length)]) (fun (j, M) => l.length - j) (0, m0X) ?_ ⟨gInt rfl (by first | rfl | omega | simp), rfl, rfl, rfl, rfl, trivial⟩ (by repeat constructor) ?_
    · skip
      exact ⟨by omega, MSnd.zero _ _ _, fun a ha => by simp at ha⟩
    · rintro ⟨j, M⟩ ⟨hj, I0, hA⟩
      refine aSeq ?_
      refine aReg ?_
      refine sp pB ?_
      refine oNil ?_
      refine aSeq ?_
      refine aCondDec rfl (fun c26 => ?_) (fun c26 => ?_)
      · skip
        refine aSkip ?_
        refine aSeq ?_
        refine aBlock ?_
        refine aSeq ?_
        obtain ⟨a, ha⟩ : ∃ z, l[j]? = some z := ⟨_, List.getElem?_eq_getElem (by omega)⟩
        have ham := List.mem_of_getElem? ha
        have hak := hl a ham
        unfold AOk at hak
        obtain ⟨p, hp⟩ := V.at_ a.f ⟨a, ham, .inl rfl⟩
        obtain ⟨q, hq⟩ := V.at_ a.t ⟨a, ham, .inr rfl⟩
        have hpn := (List.getElem?_eq_some_iff.1 hp).1
        have hqn := (List.getElem?_eq_some_iff.1 hq).1
        have hri : (List.range (nodesV l).length)[((p : Nat) : Int).toNat]? = some p := by rw [Int.toNat_natCast, List.getElem?_range hpn]
        refine aReg ?_
        first | refine sp (pIx es_22) ?_ | (refine obtSN 23 25 rfl rfl (by omega) (fun x27 hx27 => ?_); refine sp (pIs es_22 hx27) ?_) | (refine obtS 23 25 rfl rfl (by omega) (by omega) (fun x27 hx27 => ?_); refine sp (pIs es_22 hx27) ?_) | refine sp (pIo es_22) ?_
        refine sr (by first | exact rSW ty_36 rfl | exact rSA ty_36) ?_
        refine sq ?_
        refine qAlloc rfl rfl (by decide) ze_36 rfl (fun b7 => ?_)
        refine sa ?_
        refine oStW rfl rfl rfl rfl (by repeat constructor) ty_36 ?_
        refine oNil ?_
        refine aSeq ?_
        refine aReg ?_
        refine sp pM ?_
        refine sp (pFb fd_36_0) ?_
        refine sr (rB1 ty_3) ?_
        refine sq ?_
        refine ci rfl rfl rfl (bsearch (l := nodesV l) (t := a.f) (p := p) V.srt (by omega) hp) ?_
        refine sp pM ?_
        refine sp pX ?_
        refine sp pX ?_
        refine sp pMa ?_
        refine sp pMa ?_
        refine oNil ?_
        refine aSeq ?_
        refine aReg ?_
        refine sp pM ?_
        refine sp (pFb fd_36_1) ?_
        refine sr (rB1 ty_3) ?_
        refine sq ?_
        refine ci rfl rfl rfl (bsearch (l := nodesV l) (t := a.t) (p := q) V.srt (by omega) hq) ?_
        refine sp pM ?_
        refine sp pX ?_
        refine sp pX ?_
        refine sp pMa ?_
        refine sp pMa ?_
        refine oNil ?_
        refine aDrawT mx_Of_r10_t mx_Of_r10_b [17] 18 #[false, false, false, false, false, false, false, false, false, false, false, false, false, false, false, false, false, false] (by kernel_rfl) rfl rfl (fun HT => ?_)
        refine dp HT 0 rfl pM ?_
        refine dp HT 1 rfl pM ?_
        first | refine dp HT 2 rfl (pIx es_51) ?_ | (refine obtDN 43 44 rfl rfl (by omega) (fun x45 hx45 => ?_); refine dp HT 2 rfl (pIs es_51 hx45) ?_) | (refine obtD 43 44 rfl rfl (by omega) (by omega) (fun x45 hx45 => ?_); refine dp HT 2 rfl (pIs es_51 hx45) ?_) | refine dp HT 2 rfl (pIo es_51) ?_
        refine dr HT 3 rfl (rO1 (fC := rowH bb cc (nodesV l).length) ty_54 hri) ?_
        refine dp HT 4 rfl pM ?_
        refine dp HT 5 rfl pM ?_
        refine dp HT 6 rfl pM ?_
        first | refine dp HT 7 rfl (pIx es_51) ?_ | (refine obtDN 48 49 rfl rfl (by omega) (fun x50 hx50 => ?_); refine dp HT 7 rfl (pIs es_51 hx50) ?_) | (refine obtD 48 49 rfl rfl (by omega) (by omega) (fun x50 hx50 => ?_); refine dp HT 7 rfl (pIs es_51 hx50) ?_) | refine dp HT 7 rfl (pIo es_51) ?_
        refine dr HT 8 rfl (rO1 (fC := rowH bb cc (nodesV l).length) ty_54 hri) ?_
        refine dp HT 9 rfl pM ?_
        first | refine dp HT 10 rfl (pIx es_54) ?_ | (refine obtDN 51 52 rfl rfl (by omega) (fun x53 hx53 => ?_); refine dp HT 10 rfl (pIs es_54 hx53) ?_) | (refine obtD 51 52 rfl rfl (by omega) (by omega) (fun x53 hx53 => ?_); refine dp HT 10 rfl (pIs es_54 hx53) ?_) | refine dp HT 10 rfl (pIo es_54) ?_
        refine dr HT 11 rfl (rMx ty_37 rfl hpn hqn) ?_
        refine dp HT 12 rfl (pFb fd_36_2) ?_
        refine dr HT 13 rfl (rB1 ty_3) ?_
        refine dp HT 14 rfl (by first | exact pCvK ik_3 ik_37 | exact pConv rfl rfl ik_3 ik_37 rfl) ?_
        refine dp HT 15 rfl pMin ?_
        first | refine dp HT 16 rfl (pIx es_54) ?_ | (refine obtDN 46 47 rfl rfl (by omega) (fun x59 hx59 => ?_); refine dp HT 16 rfl (pIs es_54 hx59) ?_) | (refine obtD 46 47 rfl rfl (by omega) (by omega) (fun x59 hx59 => ?_); refine dp HT 16 rfl (pIs es_54 hx59) ?_) | refine dp HT 16 rfl (pIo es_54) ?_
        refine dGo ?_
        refine eLast ?_
        refine f1 HT 17 rfl ?_
        refine oMx rfl rfl rfl rfl ty_37 hpn hqn ?_
        refine fE HT ?_
        clear HT
        refine aReg ?_
        refine sp pAd ?_
        refine sp pM ?_
        refine oNil ?_
        refine ⟨(j + 1, _), ?_, by (try dsimp only); omega, ⟨gInt rfl (by first | rfl | omega | simp), rfl, rfl, rfl, rfl, trivial⟩, _, (by repeat constructor)⟩
        refine ⟨by omega, I0.arc hl ham hpn hqn (nsV_at hp) (nsV_at hq), ?_⟩
        rw [take_step ha]
        exact hA.step V.inj hpn hqn (nsV_at hp) (nsV_at hq)
      · skip
        refine aExit rfl ?_
        refine aSeq ?_
        refine aSeq ?_
        rw [take_all (by omega)] at hA
        refine aReg ?_
        refine sp pM ?_
        refine sp (by first | exact pLm sl_25 | exact pLs sl_25 | exact pLv sl_25) ?_
        refine sp pM ?_
        refine oNil ?_
        refine aBlock ?_
        refine loopF (α := Nat × MxF) (kept := [(4, _), (5, _), (62, _)]) (fun (b, M) => b ≤ (nodesV l).length ∧ MSnd l (nsV l) (nodesV l).length M ∧ MDom l (nsV l) (nodesV l).length b M) (fun (b, M) => [(63, .int b)]) (fun (b, M) => [.sl (some bm) (nodesV l).length 54 1 ((List.range (nodesV l).length).map (rowH bb cc (nodesV l).length)), .fam 37 1 (famX bb cc M (nodesV l).length (nodesV l).length)]) (fun (b, M) => (nodesV l).length - b) (0, M) ?_ ⟨gInt rfl (by first | rfl | omega | simp), rfl, rfl, rfl, trivial⟩ (by repeat constructor) ?_
        · skip
          exact ⟨by omega, I0, hA.dom⟩
        · rintro ⟨b, M⟩ ⟨hb, I1, hD⟩
          refine aSeq ?_
          refine aReg ?_
          refine sp pB ?_
          refine oNil ?_
          refine aSeq ?_
          refine aCondDec rfl (fun c64 => ?_) (fun c64 => ?_)
          · skip
            refine aSkip ?_
            refine aSeq ?_
            refine aBlock ?_
            refine aSeq ?_
            refine aReg ?_
            refine sp pM ?_
            refine sp pMa ?_
            refine oNil ?_
            refine aSeq ?_
            refine aReg ?_
            refine sp pM ?_
            refine sp (by first | exact pLm sl_25 | exact pLs sl_25 | exact pLv sl_25) ?_
            refine sp pM ?_
            refine oNil ?_
            refine aBlock ?_
            refine loopF (α := Nat × MxF) (kept := [(4, _), (5, _), (12, _), (62, _), (63, _), (67, _)]) (fun (i, M2) => i ≤ (nodesV l).length ∧ MSnd l (nsV l) (nodesV l).length M2 ∧ MRnd (nodesV l).length b M M2 i 0) (fun (i, M2) => [(68, .int i)]) (fun (i, M2) => [.sl (some bm) (nodesV l).length 54 1 ((List.range (nodesV l).length).map (rowH bb cc (nodesV l).length)), .fam 37 1 (famX bb cc M2 (nodesV l).length (nodesV l).length)]) (fun (i, M2) => (nodesV l).length - i) (0, M) ?_ ⟨gInt rfl (by first | rfl | omega | simp), rfl, rfl, rfl, rfl, rfl, rfl, trivial⟩ (by repeat constructor) ?_
            · skip
              exact ⟨by omega, I1, MRnd.start _ _ _⟩
            · rintro ⟨i, M2⟩ ⟨hi, I2, hR⟩
              refine aSeq ?_
              refine aReg ?_
              refine sp pB ?_
              refine oNil ?_
              refine aSeq ?_
              refine aCondDec rfl (fun c69 => ?_) (fun c69 => ?_)
              · skip
                refine aSkip ?_
                refine aSeq ?_
                refine aBlock ?_
                refine aSeq ?_
                refine aReg ?_
                refine sp pM ?_
                refine sp pMa ?_
                refine oNil ?_
                refine aSeq ?_
                refine aReg ?_
                refine sp pM ?_
                refine sp (by first | exact pLm sl_25 | exact pLs sl_25 | exact pLv sl_25) ?_
                refine sp pM ?_
                refine oNil ?_
                refine aBlock ?_
                refine loopF (α := Nat × MxF) (kept := [(4, _), (5, _), (12, _), (13, _), (62, _), (63, _), (67, _), (68, _), (72, _)]) (fun (k, M3) => k ≤ (nodesV l).length ∧ MSnd l (nsV l) (nodesV l).length M3 ∧ MRnd (nodesV l).length b M M3 i k) (fun (k, M3) => [(73, .int k)]) (fun (k, M3) => [.sl (some bm) (nodesV l).length 54 1 ((List.range (nodesV l).length).map (rowH bb cc (nodesV l).length)), .fam 37 1 (famX bb cc M3 (nodesV l).length (nodesV l).length)]) (fun (k, M3) => (nodesV l).length - k) (0, M2) ?_ ⟨gInt rfl (by first | rfl | omega | simp), rfl, rfl, rfl, rfl, rfl, rfl, rfl, rfl, rfl, trivial⟩ (by repeat constructor) ?_
                · skip
                  exact ⟨by omega, I2, hR⟩
                · rintro ⟨k, M3⟩ ⟨hk, I3, hR3⟩
                  refine aSeq ?_
                  refine aReg ?_
                  refine sp pB ?_
                  refine oNil ?_
                  refine aSeq ?_
                  refine aCondDec rfl (fun c74 => ?_) (fun c74 => ?_)
                  · skip
                    refine aSkip ?_
                    refine aSeq ?_
                    refine aBlock ?_
                    refine aSeq ?_
                    refine aReg ?_
                    refine sp pM ?_
                    refine sp pMa ?_
                    refine oNil ?_
                    have hin : i < (nodesV l).length := by omega
                    have hkn : k < (nodesV l).length := by omega
                    have hbn : b < (nodesV l).length := by omega
                    have hri : (List.range (nodesV l).length)[((i : Nat) : Int).toNat]? = some i := by rw [Int.toNat_natCast, List.getElem?_range hin]
                    have hrb : (List.range (nodesV l).length)[((b : Nat) : Int).toNat]? = some b := by rw [Int.toNat_natCast, List.getElem?_range hbn]
                    have g1 := I3.rng i b hin hbn
                    have g2 := I3.rng b k hbn hkn
                    have g3 := I3.rng i k hin hkn
                    unfold farI at g1 g2 g3
                    refine aDrawT mx_Of_r21_t mx_Of_r21_b [29] 30 #[false, false, false, false, false, false, false, false, false, false, false, false, false, false, false, false, false, false, false, false, false, false, false, false, false, false, false, false, false, false] (by kernel_rfl) rfl rfl (fun HT => ?_)
                    refine dp HT 0 rfl pM ?_
                    refine dp HT 1 rfl pM ?_
                    first | refine dp HT 2 rfl (pIx es_51) ?_ | (refine obtDN 76 77 rfl rfl (by omega) (fun x78 hx78 => ?_); refine dp HT 2 rfl (pIs es_51 hx78) ?_) | (refine obtD 76 77 rfl rfl (by omega) (by omega) (fun x78 hx78 => ?_); refine dp HT 2 rfl (pIs es_51 hx78) ?_) | refine dp HT 2 rfl (pIo es_51) ?_
                    refine dr HT 3 rfl (rO1 (fC := rowH bb cc (nodesV l).length) ty_54 hri) ?_
                    refine dp HT 4 rfl pM ?_
                    refine dp HT 5 rfl pM ?_
                    refine dp HT 6 rfl pM ?_
                    first | refine dp HT 7 rfl (pIx es_51) ?_ | (refine obtDN 81 82 rfl rfl (by omega) (fun x83 hx83 => ?_); refine dp HT 7 rfl (pIs es_51 hx83) ?_) | (refine obtD 81 82 rfl rfl (by omega) (by omega) (fun x83 hx83 => ?_); refine dp HT 7 rfl (pIs es_51 hx83) ?_) | refine dp HT 7 rfl (pIo es_51) ?_
                    refine dr HT 8 rfl (rO1 (fC := rowH bb cc (nodesV l).length) ty_54 hri) ?_
                    refine dp HT 9 rfl pM ?_
                    first | refine dp HT 10 rfl (pIx es_54) ?_ | (refine obtDN 84 85 rfl rfl (by omega) (fun x86 hx86 => ?_); refine dp HT 10 rfl (pIs es_54 hx86) ?_) | (refine obtD 84 85 rfl rfl (by omega) (by omega) (fun x86 hx86 => ?_); refine dp HT 10 rfl (pIs es_54 hx86) ?_) | refine dp HT 10 rfl (pIo es_54) ?_
                    refine dr HT 11 rfl (rMx ty_37 rfl hin hkn) ?_
                    refine dp HT 12 rfl pM ?_
                    refine dp HT 13 rfl pM ?_
                    first | refine dp HT 14 rfl (pIx es_51) ?_ | (refine obtDN 88 89 rfl rfl (by omega) (fun x90 hx90 => ?_); refine dp HT 14 rfl (pIs es_51 hx90) ?_) | (refine obtD 88 89 rfl rfl (by omega) (by omega) (fun x90 hx90 => ?_); refine dp HT 14 rfl (pIs es_51 hx90) ?_) | refine dp HT 14 rfl (pIo es_51) ?_
                    refine dr HT 15 rfl (rO1 (fC := rowH bb cc (nodesV l).length) ty_54 hri) ?_
                    refine dp HT 16 rfl pM ?_
                    first | refine dp HT 17 rfl (pIx es_54) ?_ | (refine obtDN 91 92 rfl rfl (by omega) (fun x93 hx93 => ?_); refine dp HT 17 rfl (pIs es_54 hx93) ?_) | (refine obtD 91 92 rfl rfl (by omega) (by omega) (fun x93 hx93 => ?_); refine dp HT 17 rfl (pIs es_54 hx93) ?_) | refine dp HT 17 rfl (pIo es_54) ?_
                    refine dr HT 18 rfl (rMx ty_37 rfl hin hbn) ?_
                    refine dp HT 19 rfl pM ?_
                    refine dp HT 20 rfl pM ?_
                    first | refine dp HT 21 rfl (pIx es_51) ?_ | (refine obtDN 95 96 rfl rfl (by omega) (fun x97 hx97 => ?_); refine dp HT 21 rfl (pIs es_51 hx97) ?_) | (refine obtD 95 96 rfl rfl (by omega) (by omega) (fun x97 hx97 => ?_); refine dp HT 21 rfl (pIs es_51 hx97) ?_) | refine dp HT 21 rfl (pIo es_51) ?_
                    refine dr HT 22 rfl (rO1 (fC := rowH bb cc (nodesV l).length) ty_54 hrb) ?_
                    refine dp HT 23 rfl pM ?_
                    first | refine dp HT 24 rfl (pIx es_54) ?_ | (refine obtDN 98 99 rfl rfl (by omega) (fun x100 hx100 => ?_); refine dp HT 24 rfl (pIs es_54 hx100) ?_) | (refine obtD 98 99 rfl rfl (by omega) (by omega) (fun x100 hx100 => ?_); refine dp HT 24 rfl (pIs es_54 hx100) ?_) | refine dp HT 24 rfl (pIo es_54) ?_
                    refine dr HT 25 rfl (rMx ty_37 rfl hbn hkn) ?_
                    refine dGo ?_
                    refine e1 HT 26 rfl ?_
                    refine cv rfl rfl rfl (lents_refl _) (cost_Add (by omega) (by omega) (by omega) (by omega)) ?_
                    rw [show (if M3 i b > 18446744073709551615 - M3 b k then 18446744073709551615 else M3 i b + M3 b k) = addS (M3 i b) (M3 b k) from rfl]
                    refine ef HT 27 rfl pMin ?_
                    first | refine ep HT 28 rfl (pIx es_54) ?_ | (refine obtEN 79 80 rfl rfl (by omega) (fun x104 hx104 => ?_); refine ep HT 28 rfl (pIs es_54 hx104) ?_) | (refine obtE 79 80 rfl rfl (by omega) (by omega) (fun x104 hx104 => ?_); refine ep HT 28 rfl (pIs es_54 hx104) ?_) | refine ep HT 28 rfl (pIo es_54) ?_
                    refine eLast ?_
                    refine f1 HT 29 rfl ?_
                    refine oMx rfl rfl rfl rfl ty_37 hin hkn ?_
                    refine fE HT ?_
                    clear HT
                    refine aReg ?_
                    refine sp pAd ?_
                    refine sp pM ?_
                    refine oNil ?_
                    refine ⟨(k + 1, _), ?_, by (try dsimp only); omega, ⟨gInt rfl (by first | rfl | omega | simp), rfl, rfl, rfl, rfl, rfl, rfl, rfl, rfl, rfl, trivial⟩, _, (by repeat constructor)⟩
                    exact ⟨by omega, I3.put hin hkn hbn, MRnd.put I3 hR3 hin hkn hbn⟩
                  · skip
                    refine aExit rfl ?_
                    refine aReg ?_
                    refine sp pAd ?_
                    refine sp pM ?_
                    refine oNil ?_
                    refine ⟨(i + 1, _), ?_, by (try dsimp only); omega, ⟨gInt rfl (by first | rfl | omega | simp), rfl, rfl, rfl, rfl, rfl, rfl, trivial⟩, _, (by repeat constructor)⟩
                    obtain rfl : k = (nodesV l).length := by omega
                    exact ⟨by omega, I3, hR3.row⟩
              · skip
                refine aExit rfl ?_
                refine aReg ?_
                refine sp pAd ?_
                refine sp pM ?_
                refine oNil ?_
                refine ⟨(b + 1, _), ?_, by (try dsimp only); omega, ⟨gInt rfl (by first | rfl | omega | simp), rfl, rfl, rfl, trivial⟩, _, (by repeat constructor)⟩
                obtain rfl : i = (nodesV l).length := by omega
                exact ⟨by omega, I2, hD.next hl hR (by omega)⟩
          · skip
            refine aExit rfl ?_
            refine aSeq ?_
            obtain rfl : b = (nodesV l).length := by omega
            refine aWeak (weak_mxSettle (k := 5) rfl (.cons (by repeat constructor) (.cons (by repeat constructor) .nil))) ?_
            rw [mx_rows hll V I1 hD]
            refine aReg ?_
            refine sp pM ?_
            refine sp pM ?_
            refine sp pMa ?_
            refine sp pMa ?_
            refine oNil ?_
            refine aRet ?_
            refine finIs rfl ?_
            rfl
/- waymarkref47.Entry -/
set_option maxRecDepth 100000 in
set_option maxHeartbeats 400000 in
theorem ref47_Entry {l : List Arc} {a b : Int} (hok : ∀ a ∈ l, AOk a) (hll : l.length ≤ 1000000) (h0 : 0 ≤ b) (h1 : b ≤ 64) : Triple Try.prog 50 [.sl 3 (l.map arcC), .int a, .int b] [] (Is (.v (.int .u64 (if isF l a b then dF l a b else 18446744073709551615))) []) := by
  refine triple_of Try.func50 rfl (by kernel_rfl) rfl (by simp) ?_
  refine aSeq ?_
  refine aReg ?_
  refine sp pMa ?_
  refine oNil ?_
  refine aSeq ?_
  refine aReg ?_
  refine sp pM ?_
  refine sp pM ?_
  refine sq ?_
  refine ci rfl rfl rfl (ref25_From (l := l) (r := a) hll hok) ?_
  refine sq ?_
  refine qAlloc rfl rfl (by decide) ze_172 rfl (fun b7 => ?_)
  refine sa ?_
  refine oStW (hn := distC_len _) (h1 := distC_one _) rfl rfl rfl rfl (by repeat constructor) ty_172 ?_
  rw [show avCells (.agg (distC (bfD l a))) = arrF 65 (fun x => [u64A x]) (bfD l a).2 ++ arrF 65 (fun x => [boA x]) (bfD l a).1 from rfl]
  refine oNil ?_
  refine aSeq ?_
  refine aSeq ?_
  refine aReg ?_
  refine sp pM ?_
  refine sp (pFb fd_172_1) ?_
  refine sp (pIa ar_170) ?_
  refine sr (by first | exact rAr ty_4 | exact rArL ty_4 | exact rArR2 ty_4 | exact rB1 ty_4) ?_
  refine sp pNo ?_
  refine oNil ?_
  refine aCondNot rfl (fun c15 => ?_) (fun c15 => ?_)
  · skip
    refine aSeq ?_
    refine aReg ?_
    refine sp pMa ?_
    refine oNil ?_
    refine aRet ?_
    refine finIs rfl ?_
    have hno : isF l a b = false := by
      show (bfD l a).1 b = false
      first | assumption | simp_all
    rw [hno]
    rfl
  · skip
    refine aSkip ?_
    refine aSeq ?_
    refine aReg ?_
    refine sp pM ?_
    refine sp (pFb fd_172_0) ?_
    refine sp (pIa ar_169) ?_
    refine sr (by first | exact rAr ty_37 | exact rArL ty_37 | exact rArR2 ty_37 | exact rB1 ty_37) ?_
    refine sp pMa ?_
    refine oNil ?_
    refine aRet ?_
    refine finIs rfl ?_
    have hyes : isF l a b = true := by
      show (bfD l a).1 b = true
      first | assumption | simp_all
    rw [hyes]
    rfl
end A
end Go.Proofs.Ytmcannmjielalaa
