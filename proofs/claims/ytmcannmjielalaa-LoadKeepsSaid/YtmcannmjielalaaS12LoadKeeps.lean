/- Texts that LoadKeeps's proof rests on, part 13. -/
import Derived.KernelRfl
import Derived.Test.YtmcannmjielalaaProg
import Derived.Test.YtmcannmjielalaaS11LoadKeeps
set_option linter.unusedVariables false
set_option linter.unusedSimpArgs false
namespace Go.Proofs.Ytmcannmjielalaa
namespace A
theorem es_22 : elemSize Try.prog 22 = some 3 := by kernel_rfl
theorem es_25 : elemSize Try.prog 25 = some 1 := by kernel_rfl
theorem fd_36_0 : fieldOf Try.prog 36 0 = some (0, 1, false) := by kernel_rfl
theorem fd_36_1 : fieldOf Try.prog 36 1 = some (1, 1, false) := by kernel_rfl
theorem fd_36_2 : fieldOf Try.prog 36 2 = some (2, 1, false) := by kernel_rfl
theorem sl_22 : isSl Try.prog 22 = true := by kernel_rfl
theorem sl_25 : isSl Try.prog 25 = true := by kernel_rfl
theorem ty_3 : tyOf Try.prog 3 = some (1, false) := by kernel_rfl
theorem ty_36 : tyOf Try.prog 36 = some (3, true) := by kernel_rfl
theorem us_25 : Try.prog.underlying 25 = some (.slice 3) := by kernel_rfl
theorem ze_3 : zeroOf Try.prog 3 = some (.int .i64 0) := by kernel_rfl
theorem ze_36 : zeroOf Try.prog 36 = some (.agg #[.int .i64 0, .int .i64 0, .int .i64 0]) := by kernel_rfl
def cmpI (a b : Int) : Int := if a < b then -1 else if b < a then 1 else 0
def orI : List Int → Int
  | [] => 0
  | a :: l => if a ≠ 0 then a else orI l
theorem orI_drop {xs : List Int} {i : Nat} {a : Int} (h : xs[i]? = some a) : orI (xs.drop i) = if a ≠ 0 then a else orI (xs.drop (i + 1)) := by
  rw [drop_step h]
  rfl
/- cmp.isNaN[int] -/
set_option maxRecDepth 100000 in
set_option maxHeartbeats 400000 in
theorem cmp_isNaN {n : Int} : Triple Try.prog 246 [.int n] [] (Is (.v (.bool false)) []) := by
  refine triple_of Try.func246 rfl (by kernel_rfl) rfl (by simp) ?_
  refine aSeq ?_
  refine aReg ?_
  refine sp pMa ?_
  refine oNil ?_
  refine aSeq ?_
  refine aReg ?_
  refine sp pM ?_
  refine sp pM ?_
  refine sp pB ?_
  refine sp pMa ?_
  refine oNil ?_
  refine aRet ?_
  refine finIs rfl ?_
  simp [retOf]
/- cmp.Compare[int] -/
set_option maxRecDepth 100000 in
set_option maxHeartbeats 400000 in
theorem cmp_Compare {a b : Int} : Triple Try.prog 174 [.int a, .int b] [] (Is (.v (.int .i64 (cmpI a b))) []) := by
  refine triple_of Try.func174 rfl (by kernel_rfl) rfl (by simp) ?_
  refine aSeq ?_
  refine aReg ?_
  refine sp pMa ?_
  refine oNil ?_
  refine aSeq ?_
  refine aReg ?_
  refine sp pM ?_
  refine sq ?_
  refine cv rfl rfl rfl (lents_refl _) cmp_isNaN ?_
  refine sp pMa ?_
  refine oNil ?_
  refine aSeq ?_
  refine aReg ?_
  refine sp pM ?_
  refine sq ?_
  refine cv rfl rfl rfl (lents_refl _) cmp_isNaN ?_
  refine sp pMa ?_
  refine oNil ?_
  refine aSeq ?_
  refine aSeq ?_
  refine aReg ?_
  refine sp pM ?_
  refine oNil ?_
  refine aCond rfl (fun c11 => ?_) (fun c11 => ?_)
  · skip
    refine aSeq ?_
    refine aSeq ?_
    refine aReg ?_
    refine sp pM ?_
    refine oNil ?_
    refine aCond rfl (fun c12 => ?_) (fun c12 => ?_)
    · skip
      refine aSeq ?_
      refine aReg ?_
      refine sp pMa ?_
      refine oNil ?_
      refine aRet ?_
      refine finIs rfl ?_
      simp_all [retOf, cmpI] <;> omega
    · skip
      refine aSkip ?_
      refine aSeq ?_
      refine aReg ?_
      refine sp pMa ?_
      refine oNil ?_
      refine aRet ?_
      refine finIs rfl ?_
      simp_all [retOf, cmpI] <;> omega
  · skip
    refine aSkip ?_
    refine aSeq ?_
    refine aSeq ?_
    refine aReg ?_
    refine sp pM ?_
    refine oNil ?_
    refine aCond rfl (fun c13 => ?_) (fun c13 => ?_)
    · skip
      refine aSeq ?_
      refine aReg ?_
      refine sp pMa ?_
      refine oNil ?_
      refine aRet ?_
      refine finIs rfl ?_
      simp_all [retOf, cmpI] <;> omega
    · skip
      refine aSkip ?_
      refine aSeq ?_
      refine aSeq ?_
      refine aReg ?_
      refine sp pM ?_
      refine sp pM ?_
      refine sp pB ?_
      refine oNil ?_
      refine aCondDec rfl (fun c16 => ?_) (fun c16 => ?_)
      · skip
        refine aSeq ?_
        refine aReg ?_
        refine sp pMa ?_
        refine oNil ?_
        refine aRet ?_
        refine finIs rfl ?_
        simp_all [retOf, cmpI] <;> omega
      · skip
        refine aSkip ?_
        refine aSeq ?_
        refine aSeq ?_
        refine aReg ?_
        refine sp pM ?_
        refine sp pM ?_
        refine sp pB ?_
        refine oNil ?_
        refine aCondDec rfl (fun c19 => ?_) (fun c19 => ?_)
        · skip
          refine aSeq ?_
          refine aReg ?_
          refine sp pMa ?_
          refine oNil ?_
          refine aRet ?_
          refine finIs rfl ?_
          simp_all [retOf, cmpI] <;> omega
        · skip
          refine aSkip ?_
          refine aSeq ?_
          refine aReg ?_
          refine sp pMa ?_
          refine oNil ?_
          refine aRet ?_
          refine finIs rfl ?_
          simp_all [retOf, cmpI] <;> omega
/- cmp.Or[int] -/
set_option maxRecDepth 100000 in
set_option maxHeartbeats 400000 in
theorem cmp_Or (xs : List Int) (hx : xs.length ≤ 1000 := by simp) : Triple Try.prog 173 [.sl 1 (xs.map intA)] [] (Is (.v (.int .i64 (orI xs))) []) := by
  refine triple_of Try.func173 rfl (by kernel_rfl) rfl (by simp) ?_
  refine aSeq ?_
  refine aReg ?_
  refine sp pMa ?_
  refine oNil ?_
  refine aSeq ?_
  refine aReg ?_
  refine sp pMa ?_
  refine oNil ?_
  refine aSeq ?_
  refine aSeq ?_
  refine aReg ?_
  refine sp pM ?_
  refine sp (by first | exact pLm sl_25 | exact pLs sl_25) ?_
  refine sp pM ?_
  refine oNil ?_
  refine aBlock ?_
  refine loopF (α := Nat) (kept := [(3, _), (6, _), (7, _)]) (fun i => i ≤ xs.length ∧ orI (xs.drop i) = orI xs) (fun i => [(8, .int i)]) (fun i => []) (fun i => xs.length - i) 0 ?_ ⟨gInt rfl (by first | rfl | omega | simp), rfl, rfl, rfl, trivial⟩ (by repeat constructor) ?_
  · skip
    exact ⟨by omega, rfl⟩
  · rintro i ⟨hi, ho⟩
    refine aSeq ?_
    refine aReg ?_
    refine sp pB ?_
    refine oNil ?_
    refine aSeq ?_
    refine aCondDec rfl (fun c9 => ?_) (fun c9 => ?_)
    · skip
      refine aSkip ?_
      refine aSeq ?_
      refine aBlock ?_
      refine aSeq ?_
      refine aReg ?_
      first | refine sp (pIx es_25) ?_ | (refine obtSN 6 8 rfl rfl (by omega) (fun x10 hx10 => ?_); refine sp (pIs es_25 hx10) ?_) | (refine obtS 6 8 rfl rfl (by omega) (by omega) (fun x10 hx10 => ?_); refine sp (pIs es_25 hx10) ?_) | refine sp (pIo es_25) ?_
      refine sr (rS1 ty_3) ?_
      refine sp pMa ?_
      refine oNil ?_
      refine aSeq ?_
      refine aReg ?_
      refine sp pM ?_
      refine sp pM ?_
      refine sp pB ?_
      refine oNil ?_
      refine aCondNe rfl (fun c14 => ?_) (fun c14 => ?_)
      · skip
        refine aSeq ?_
        refine aReg ?_
        refine sp pM ?_
        refine sp pMa ?_
        refine oNil ?_
        refine aRet ?_
        refine finIs rfl ?_
        show AV.int _ = AV.int _
        congr 2
        first | (rw [← ho, orI_drop hx10, if_pos (by assumption)]; done) | (rw [← ho, List.drop_of_length_le (by omega)]; rfl)
      · skip
        refine aSkip ?_
        refine aReg ?_
        refine sp pAd ?_
        refine sp pM ?_
        refine oNil ?_
        refine ⟨i + 1, ?_, by (try dsimp only); omega, ⟨gInt rfl (by first | rfl | omega | simp), rfl, rfl, rfl, trivial⟩, _, (by repeat constructor)⟩
        exact ⟨by omega, by rw [← ho, orI_drop hx10]; simp_all⟩
    · skip
      refine aExit rfl ?_
      refine aSeq ?_
      refine aReg ?_
      refine sp pM ?_
      refine sp pMa ?_
      refine oNil ?_
      refine aRet ?_
      refine finIs rfl ?_
      show AV.int _ = AV.int _
      congr 2
      first | (rw [← ho, orI_drop hx10, if_pos (by assumption)]; done) | (rw [← ho, List.drop_of_length_le (by omega)]; rfl)
structure Arc where
  f : Int
  t : Int
  c : Int
  deriving DecidableEq, Inhabited
def arcC (a : Arc) : List AV := [.int a.f, .int a.t, .int a.c]
def nodeB (n : Int) : Bool := decide (1 ≤ n) && decide (n ≤ 64)
def arcB (a : Arc) : Bool := nodeB a.f && nodeB a.t && !(a.f == a.t) && decide (1 ≤ a.c) && decide (a.c ≤ 1073741824)
def ltA (x y : Arc) : Prop := x.f < y.f ∨ x.f = y.f ∧ x.t < y.t
instance (x y : Arc) : Decidable (ltA x y) := by unfold ltA; infer_instance
/-- Arcs from a place on, behind the one ahead of it. -/
def arcsB : Option Arc → List Arc → Bool
  | _, [] => true
  | p, a :: l => arcB a && (match p with | none => true | some q => decide (ltA q a)) && arcsB (some a) l
def orderA (a b : Arc) : Int := orI [cmpI a.f b.f, cmpI a.t b.t]
theorem cmpI_ne {a b : Int} : cmpI a b ≠ 0 ↔ a ≠ b := by unfold cmpI; split <;> (try split) <;> omega
theorem cmpI_lt {a b : Int} : cmpI a b < 0 ↔ a < b := by unfold cmpI; split <;> (try split) <;> omega
theorem orderA_lt {a b : Arc} : orderA a b < 0 ↔ ltA a b := by
  simp only [orderA, orI, ltA]
  have h1 := cmpI_ne (a := a.f) (b := b.f)
  have h2 := cmpI_lt (a := a.f) (b := b.f)
  have h3 := cmpI_ne (a := a.t) (b := b.t)
  have h4 := cmpI_lt (a := a.t) (b := b.t)
  split
  · omega
  · split <;> omega
def ordA (p : Option Arc) (e : Arc) : Bool := match p with | none => true | some q => decide (orderA q e < 0)
theorem arcs_step {l : List Arc} {i : Nat} {e : Arc} {p : Option Arc} (h : l[i]? = some e) : arcsB p (l.drop i) = (arcB e && ordA p e && arcsB (some e) (l.drop (i + 1))) := by
  rw [drop_step h]
  cases p with
  | none => rfl
  | some q => simp only [arcsB, ordA, orderA_lt]
theorem arcsB_all : ∀ {l : List Arc} {p : Option Arc}, arcsB p l = true → ∀ e ∈ l, arcB e = true
  | [], _, _, e, he => by simp at he
  | x :: l, p, h, e, he => by
    simp only [arcsB, Bool.and_eq_true] at h
    rcases List.mem_cons.1 he with rfl | he
    · exact h.1.1
    · exact arcsB_all h.2 e he
theorem ltA_trans {x y z : Arc} (h1 : ltA x y) (h2 : ltA y z) : ltA x z := by unfold ltA at *; omega
theorem arcsB_lt : ∀ {l : List Arc} {q : Arc}, arcsB (some q) l = true → (q :: l).Pairwise ltA
  | [], q, _ => by simp
  | x :: l, q, h => by
    simp only [arcsB, Bool.and_eq_true, decide_eq_true_eq] at h
    have ih := arcsB_lt h.2
    refine List.pairwise_cons.2 ⟨fun y hy => ?_, ih⟩
    rcases List.mem_cons.1 hy with rfl | hy
    · exact h.1.2
    · exact ltA_trans h.1.2 ((List.pairwise_cons.1 ih).1 y hy)
theorem arcsB_sorted {l : List Arc} (h : arcsB none l = true) : l.Pairwise ltA := by
  cases l with
  | nil => exact .nil
  | cons x l =>
    simp only [arcsB, Bool.and_eq_true] at h
    exact arcsB_lt h.2
theorem arcsB_of : ∀ {l : List Arc} {p : Option Arc}, (∀ e ∈ l, arcB e = true) → (∀ q, p = some q → (q :: l).Pairwise ltA) → l.Pairwise ltA → arcsB p l = true
  | [], _, _, _, _ => rfl
  | x :: l, p, h1, h2, h3 => by
    simp only [arcsB, Bool.and_eq_true]
    refine ⟨⟨h1 x (by simp), ?_⟩, arcsB_of (fun e he => h1 e (by simp [he])) (fun q hq => by cases hq; exact h3) (List.pairwise_cons.1 h3).2⟩
    cases p with
    | none => rfl
    | some q => exact decide_eq_true ((List.pairwise_cons.1 (h2 q rfl)).1 x (by simp))
def AOk (a : Arc) : Prop := 1 ≤ a.f ∧ a.f ≤ 64 ∧ 1 ≤ a.t ∧ a.t ≤ 64 ∧ a.f ≠ a.t ∧ 1 ≤ a.c ∧ a.c ≤ 1073741824
theorem AOk.of {a : Arc} (h : arcB a = true) : AOk a := by
  simp only [arcB, nodeB, Bool.and_eq_true, decide_eq_true_eq, Bool.not_eq_true', beq_eq_false_iff_ne] at h
  unfold AOk
  omega
theorem arcs_ok {l : List Arc} (h : arcsB none l = true) : ∀ a ∈ l, AOk a := fun a ha => AOk.of (arcsB_all h a ha)
/- graph.node -/
set_option maxRecDepth 100000 in
set_option maxHeartbeats 400000 in
theorem graph_node {n : Int} : Triple Try.prog 120 [.int n] [] (Is (.v (.bool (nodeB n))) []) := by
  refine triple_of Try.func120 rfl (by kernel_rfl) rfl (by simp) ?_
  refine aSeq ?_
  refine aReg ?_
  refine sp pMa ?_
  refine oNil ?_
  refine aSeq ?_
  refine aReg ?_
  refine sp pM ?_
  refine sp pB ?_
  refine sp pM ?_
  refine oSplitDec 5 rfl (fun c5 => ?_) (fun c5 => ?_)
  · skip
    refine gp pM ?_
    refine gp pB ?_
    refine sp pK ?_
    refine sp pMa ?_
    refine oNil ?_
    refine aRet ?_
    refine finIs rfl ?_
    simp [retOf, nodeB]
    omega
  · skip
    refine gf ?_
    refine gf ?_
    refine sp pK ?_
    refine sp pMa ?_
    refine oNil ?_
    refine aRet ?_
    refine finIs rfl ?_
    simp [retOf, nodeB]
    omega
/- graph.order -/
def graph_order_r1_T : Bool × List (List Nat × List Nat) := (true, [([], []), ([0], [0]), ([], []), ([2], [2]), ([1, 3], [1, 3]), ([], []), ([5], [5]), ([], []), ([7], [7]), ([6, 8, 4], [6, 8]), ([4, 9], [4, 9]), ([10, 9], [10]), ([11, 11, 0, 1, 2, 3, 4, 5, 6, 7, 8, 9, 10, 11], [11])])
def graph_order_r1_B : List Nat := [0, 1, 0, 4, 15, 0, 32, 0, 128, 511, 1023, 2047, 4095]
theorem graph_order_r1_t : Go.Proofs.YtmcannmjielalaaW.PrintLast.rtab .any (Go.Proofs.YtmcannmjielalaaW.PrintLast.opsOf Try.f121 1) = graph_order_r1_T := by kernel_rfl
theorem graph_order_r1_b : Go.Proofs.YtmcannmjielalaaW.PrintLast.waitsOk graph_order_r1_T.2 graph_order_r1_B = true := by kernel_rfl
set_option maxRecDepth 100000 in
set_option maxHeartbeats 400000 in
theorem graph_order {a b : Arc} : Triple Try.prog 121 [.agg (arcC a), .agg (arcC b)] [] (Is (.v (.int .i64 (orderA a b))) []) := by
  refine triple_of Try.func121 rfl (by kernel_rfl) rfl (by simp) ?_
  refine aSeq ?_
  refine aReg ?_
  refine sq ?_
  refine qBox rfl rfl (by decide) rfl rfl (fun b2 => ?_)
  refine sq ?_
  refine qBox rfl rfl (by decide) rfl rfl (fun b3 => ?_)
  refine sp pMa ?_
  refine oNil ?_
  refine aSeq ?_
  refine aDrawT graph_order_r1_t graph_order_r1_b [] 13 #[false, false, false, false, false, false, false, false, false, false, false, false, false] (by kernel_rfl) rfl rfl (fun HT => ?_)
  refine dp HT 0 rfl (pFb fd_36_0) ?_
  refine dr HT 1 rfl (rB1 ty_3) ?_
  refine dp HT 2 rfl (pFb fd_36_0) ?_
  refine dr HT 3 rfl (rB1 ty_3) ?_
  refine dp HT 5 rfl (pFb fd_36_1) ?_
  refine dr HT 6 rfl (rB1 ty_3) ?_
  refine dp HT 7 rfl (pFb fd_36_1) ?_
  refine dr HT 8 rfl (rB1 ty_3) ?_
  refine dGo ?_
  refine e1 HT 4 rfl ?_
  refine cv rfl rfl rfl (lents_refl _) cmp_Compare ?_
  refine e1 HT 9 rfl ?_
  refine cv rfl rfl rfl (lents_refl _) cmp_Compare ?_
  refine e1 HT 10 rfl ?_
  refine qLit (l := [_, _]) rfl rfl (by decide) us_25 ty_3 ze_3 rfl (by decide) (by decide) rfl rfl rfl (fun b15 => ?_)
  refine e1 HT 11 rfl ?_
  refine cv rfl rfl rfl (by repeat (first | exact .nil | refine .cons (.sl (by repeat (first | exact List.mem_cons_self | apply List.mem_cons_of_mem)) (by first | rfl | simp)) ?_ | refine .cons (.same _) ?_)) (cmp_Or [cmpI a.f b.f, cmpI a.t b.t]) ?_
  refine ePure (i := 12) #[true, true, true, true, true, true, true, true, true, true, true, true, true] rfl rfl rfl (HT.any (by kernel_rfl)) (by exact pMa) (by decide) ?_
  refine eE HT ?_
  clear HT
  refine aRet ?_
  refine finIs rfl ?_
  rfl
/- graph.Check -/
def graph_Check_r4_T : Bool × List (List Nat × List Nat) := (true, [([], []), ([0], [0]), ([1], [1]), ([2], [2]), ([3, 2], [3]), ([4], [4]), ([5, 4], [4, 5]), ([6, 4, 4], [4, 6]), ([7, 4], [4, 7]), ([4, 8], [4, 8]), ([9, 7], [9]), ([10], [10]), ([11, 10], [10, 11]), ([10], [10]), ([13, 10], [10, 13]), ([12, 14, 10], [10, 12, 14]), ([10, 15], [10, 15]), ([16, 10], [16]), ([17], [17]), ([18, 17], [17, 18]), ([19, 17], [17, 19]), ([17, 20], [17, 20]), ([21, 17], [21]), ([22], [22]), ([23, 22], [22, 23]), ([24, 22], [22, 24]), ([22, 25], [22, 25]), ([26, 22], [26]), ([27], [27]), ([28, 27], [27, 28]), ([29, 27, 27], [27, 29]), ([30], [30]), ([30], [30]), ([32, 30], [30, 32]), ([31, 33, 30], [30, 31, 33]), ([34, 30], [30, 34]), ([30], [30]), ([35, 36, 30, 30], [30, 35, 36]), ([37, 30], [30, 37]), ([30, 38, 27], [27, 30, 38]), ([27, 39], [27, 39])])
def graph_Check_r4_B : List Nat := [0, 1, 3, 7, 15, 31, 63, 127, 255, 511, 1023, 2047, 4095, 2047, 10239, 32767, 65535, 131071, 262143, 524287, 1048575, 2097151, 4194303, 8388607, 16777215, 33554431, 67108863, 134217727, 268435455, 536870911, 1073741823, 2147483647, 2147483647, 6442450943, 17179869183, 34359738367, 2147483647, 137438953471, 274877906943, 549755813887, 1099511627775]
theorem graph_Check_r4_t : Go.Proofs.YtmcannmjielalaaW.PrintLast.rtab .any (Go.Proofs.YtmcannmjielalaaW.PrintLast.opsOf Try.f30 4) = graph_Check_r4_T := by kernel_rfl
theorem graph_Check_r4_b : Go.Proofs.YtmcannmjielalaaW.PrintLast.waitsOk graph_Check_r4_T.2 graph_Check_r4_B = true := by kernel_rfl
set_option maxRecDepth 100000 in
set_option maxHeartbeats 2000000 in
theorem graph_Check {l : List Arc} (hl : l.length ≤ 1000000 := by omega) : Triple Try.prog 30 [.sl 3 (l.map arcC)] [] (Is (.v (.int .i64 (if arcsB none l then 0 else 1))) []) := by
  refine triple_of Try.func30 rfl (by kernel_rfl) rfl (by simp) ?_
  refine aSeq ?_
  refine aReg ?_
  refine sp pMa ?_
  refine oNil ?_
  refine aSeq ?_
  refine aSeq ?_
  refine aReg ?_
  refine sp pM ?_
  refine sp (by first | exact pLm sl_22 | exact pLs sl_22) ?_
  refine sp pM ?_
  refine oNil ?_
  refine aBlock ?_
  refine loopF (α := Nat) (kept := [(0, _), (5, _), (6, _)]) (fun i => i ≤ l.length ∧ arcsB none l = arcsB (prevA l i) (l.drop i)) (fun i => [(7, .int i)]) (fun i => []) (fun i => l.length - i) 0 ?_ ⟨gInt rfl (by first | rfl | omega | simp), rfl, rfl, rfl, trivial⟩ (by repeat constructor) ?_
  · skip
    exact ⟨by omega, rfl⟩
  · rintro i ⟨hi, hv⟩
    refine aSeq ?_
    refine aReg ?_
    refine sp pB ?_
    refine oNil ?_
    refine aSeq ?_
    refine aCondDec rfl (fun c8 => ?_) (fun c8 => ?_)
    · skip
      refine aSkip ?_
      refine aSeq ?_
      refine aBlock ?_
      refine aSeq ?_
      refine aReg ?_
      refine sp pM ?_
      first | refine sp (pIx es_22) ?_ | (refine obtSN 5 7 rfl rfl (by omega) (fun x10 hx10 => ?_); refine sp (pIs es_22 hx10) ?_) | (refine obtS 5 7 rfl rfl (by omega) (by omega) (fun x10 hx10 => ?_); refine sp (pIs es_22 hx10) ?_) | refine sp (pIo es_22) ?_
      refine sr (by first | exact rSW ty_36 rfl | exact rSA ty_36) ?_
      refine sq ?_
      refine qAlloc rfl rfl (by decide) ze_36 rfl (fun b4 => ?_)
      refine sp pMa ?_
      refine sa ?_
      refine oStW rfl rfl rfl rfl (by repeat constructor) ty_36 ?_
      refine oNil ?_
      refine aSeq ?_
      have hprev : 0 < i → ∃ b, l[((i : Int) - 1).toNat]? = some b := fun h => ⟨_, List.getElem?_eq_getElem (by omega)⟩
      refine aDrawT graph_Check_r4_t graph_Check_r4_b [] 41 #[false, false, false, false, false, false, false, false, false, false, false, false, false, false, false, false, false, false, false, false, false, false, false, false, false, false, false, false, false, false, false, false, false, false, false, false, false, false, false, false, false] (by kernel_rfl) rfl rfl (fun HT => ?_)
      refine dp HT 0 rfl (pFb fd_36_0) ?_
      refine dr HT 1 rfl (rB1 ty_3) ?_
      refine dGo ?_
      refine e1 HT 2 rfl ?_
      refine cv rfl rfl rfl (lents_refl _) graph_node ?_
      refine ef HT 3 rfl pNo ?_
      refine ef HT 4 rfl pM ?_
      refine eSplitNot 16 rfl (fun c16 => ?_) (fun c16 => ?_)
      · skip
        refine eS HT 5 rfl ?_
        refine eS HT 6 rfl ?_
        refine eS HT 7 rfl ?_
        refine eS HT 8 rfl ?_
        refine ef HT 9 rfl pK ?_
        refine ef HT 10 rfl pM ?_
        refine eS HT 11 rfl ?_
        refine eS HT 12 rfl ?_
        refine eS HT 13 rfl ?_
        refine eS HT 14 rfl ?_
        refine eS HT 15 rfl ?_
        refine ef HT 16 rfl pK ?_
        refine ef HT 17 rfl pM ?_
        refine eS HT 18 rfl ?_
        refine eS HT 19 rfl ?_
        refine eS HT 20 rfl ?_
        refine ef HT 21 rfl pK ?_
        refine ef HT 22 rfl pM ?_
        refine eS HT 23 rfl ?_
        refine eS HT 24 rfl ?_
        refine eS HT 25 rfl ?_
        refine ef HT 26 rfl pK ?_
        refine ef HT 27 rfl pM ?_
        refine eS HT 28 rfl ?_
        refine eS HT 29 rfl ?_
        refine eS HT 30 rfl ?_
        refine eS HT 31 rfl ?_
        refine eS HT 32 rfl ?_
        refine eS HT 33 rfl ?_
        refine eS HT 34 rfl ?_
        refine eS HT 35 rfl ?_
        refine eS HT 36 rfl ?_
        refine eS HT 37 rfl ?_
        refine eS HT 38 rfl ?_
        refine eS HT 39 rfl ?_
        refine ef HT 40 rfl pK ?_
        refine eE HT ?_
        clear HT
        refine aCondT rfl ?_
        refine aSeq ?_
        refine aReg ?_
        refine sp pMa ?_
        refine oNil ?_
        refine aRet ?_
        refine finIs rfl ?_
        have hs := arcs_step (p := prevA l i) hx10
        show AV.int 1 = AV.int _
        rw [hv, hs]
        by_cases h0 : i = 0 <;> simp_all [arcB, ordA, prevA]
        all_goals (intros; omega)
      · skip
        refine epG HT 5 rfl (pFb fd_36_1) ?_
        refine erG HT 6 rfl (rB1 ty_3) ?_
        refine e1G HT 7 rfl ?_
        refine cv rfl rfl rfl (lents_refl _) graph_node ?_
        refine efG HT 8 rfl pNo ?_
        refine ef HT 9 rfl pK ?_
        refine ef HT 10 rfl pM ?_
        refine eSplitNot 22 rfl (fun c22 => ?_) (fun c22 => ?_)
        · skip
          refine eS HT 11 rfl ?_
          refine eS HT 12 rfl ?_
          refine eS HT 13 rfl ?_
          refine eS HT 14 rfl ?_
          refine eS HT 15 rfl ?_
          refine ef HT 16 rfl pK ?_
          refine ef HT 17 rfl pM ?_
          refine eS HT 18 rfl ?_
          refine eS HT 19 rfl ?_
          refine eS HT 20 rfl ?_
          refine ef HT 21 rfl pK ?_
          refine ef HT 22 rfl pM ?_
          refine eS HT 23 rfl ?_
          refine eS HT 24 rfl ?_
          refine eS HT 25 rfl ?_
          refine ef HT 26 rfl pK ?_
          refine ef HT 27 rfl pM ?_
          refine eS HT 28 rfl ?_
          refine eS HT 29 rfl ?_
          refine eS HT 30 rfl ?_
          refine eS HT 31 rfl ?_
          refine eS HT 32 rfl ?_
          refine eS HT 33 rfl ?_
          refine eS HT 34 rfl ?_
          refine eS HT 35 rfl ?_
          refine eS HT 36 rfl ?_
          refine eS HT 37 rfl ?_
          refine eS HT 38 rfl ?_
          refine eS HT 39 rfl ?_
          refine ef HT 40 rfl pK ?_
          refine eE HT ?_
          clear HT
          refine aCondT rfl ?_
          refine aSeq ?_
          refine aReg ?_
          refine sp pMa ?_
          refine oNil ?_
          refine aRet ?_
          refine finIs rfl ?_
          have hs := arcs_step (p := prevA l i) hx10
          show AV.int 1 = AV.int _
          rw [hv, hs]
          by_cases h0 : i = 0 <;> simp_all [arcB, ordA, prevA]
          all_goals (intros; omega)
        · skip
          refine epG HT 11 rfl (pFb fd_36_0) ?_
          refine erG HT 12 rfl (rB1 ty_3) ?_
          refine epG HT 13 rfl (pFb fd_36_1) ?_
          refine erG HT 14 rfl (rB1 ty_3) ?_
          refine epG HT 15 rfl pB ?_
          refine ef HT 16 rfl pK ?_
          refine ef HT 17 rfl pM ?_
          refine eSplitEq 29 rfl (fun c29 => ?_) (fun c29 => ?_)
          · skip
            refine eS HT 18 rfl ?_
            refine eS HT 19 rfl ?_
            refine eS HT 20 rfl ?_
            refine ef HT 21 rfl pK ?_
            refine ef HT 22 rfl pM ?_
            refine eS HT 23 rfl ?_
            refine eS HT 24 rfl ?_
            refine eS HT 25 rfl ?_
            refine ef HT 26 rfl pK ?_
            refine ef HT 27 rfl pM ?_
            refine eS HT 28 rfl ?_
            refine eS HT 29 rfl ?_
            refine eS HT 30 rfl ?_
            refine eS HT 31 rfl ?_
            refine eS HT 32 rfl ?_
            refine eS HT 33 rfl ?_
            refine eS HT 34 rfl ?_
            refine eS HT 35 rfl ?_
            refine eS HT 36 rfl ?_
            refine eS HT 37 rfl ?_
            refine eS HT 38 rfl ?_
            refine eS HT 39 rfl ?_
            refine ef HT 40 rfl pK ?_
            refine eE HT ?_
            clear HT
            refine aCondT rfl ?_
            refine aSeq ?_
            refine aReg ?_
            refine sp pMa ?_
            refine oNil ?_
            refine aRet ?_
            refine finIs rfl ?_
            have hs := arcs_step (p := prevA l i) hx10
            show AV.int 1 = AV.int _
            rw [hv, hs]
            by_cases h0 : i = 0 <;> simp_all [arcB, ordA, prevA]
            all_goals (intros; omega)
          · skip
            refine epG HT 18 rfl (pFb fd_36_2) ?_
            refine erG HT 19 rfl (rB1 ty_3) ?_
            refine epG HT 20 rfl pB ?_
            refine ef HT 21 rfl pK ?_
            refine ef HT 22 rfl pM ?_
            refine eSplitDec 34 rfl (fun c34 => ?_) (fun c34 => ?_)
            · skip
              refine eS HT 23 rfl ?_
              refine eS HT 24 rfl ?_
              refine eS HT 25 rfl ?_
              refine ef HT 26 rfl pK ?_
              refine ef HT 27 rfl pM ?_
              refine eS HT 28 rfl ?_
              refine eS HT 29 rfl ?_
              refine eS HT 30 rfl ?_
              refine eS HT 31 rfl ?_
              refine eS HT 32 rfl ?_
              refine eS HT 33 rfl ?_
              refine eS HT 34 rfl ?_
              refine eS HT 35 rfl ?_
              refine eS HT 36 rfl ?_
              refine eS HT 37 rfl ?_
              refine eS HT 38 rfl ?_
              refine eS HT 39 rfl ?_
              refine ef HT 40 rfl pK ?_
              refine eE HT ?_
              clear HT
              refine aCondT rfl ?_
              refine aSeq ?_
              refine aReg ?_
              refine sp pMa ?_
              refine oNil ?_
              refine aRet ?_
              refine finIs rfl ?_
              have hs := arcs_step (p := prevA l i) hx10
              show AV.int 1 = AV.int _
              rw [hv, hs]
              by_cases h0 : i = 0 <;> simp_all [arcB, ordA, prevA]
              all_goals (intros; omega)
            · skip
              refine epG HT 23 rfl (pFb fd_36_2) ?_
              refine erG HT 24 rfl (rB1 ty_3) ?_
              refine epG HT 25 rfl pB ?_
              refine ef HT 26 rfl pK ?_
              refine ef HT 27 rfl pM ?_
              refine eSplitDec 39 rfl (fun c39 => ?_) (fun c39 => ?_)
              · skip
                refine eS HT 28 rfl ?_
                refine eS HT 29 rfl ?_
                refine eS HT 30 rfl ?_
                refine eS HT 31 rfl ?_
                refine eS HT 32 rfl ?_
                refine eS HT 33 rfl ?_
                refine eS HT 34 rfl ?_
                refine eS HT 35 rfl ?_
                refine eS HT 36 rfl ?_
                refine eS HT 37 rfl ?_
                refine eS HT 38 rfl ?_
                refine eS HT 39 rfl ?_
                refine ef HT 40 rfl pK ?_
                refine eE HT ?_
                clear HT
                refine aCondT rfl ?_
                refine aSeq ?_
                refine aReg ?_
                refine sp pMa ?_
                refine oNil ?_
                refine aRet ?_
                refine finIs rfl ?_
                have hs := arcs_step (p := prevA l i) hx10
                show AV.int 1 = AV.int _
                rw [hv, hs]
                by_cases h0 : i = 0 <;> simp_all [arcB, ordA, prevA]
                all_goals (intros; omega)
              · skip
                refine epG HT 28 rfl pM ?_
                refine epG HT 29 rfl pB ?_
                refine epG HT 30 rfl pM ?_
                refine eSplitDec 42 rfl (fun c42 => ?_) (fun c42 => ?_)
                · skip
                  refine epG HT 31 rfl pM ?_
                  refine epG HT 32 rfl pM ?_
                  refine epG HT 33 rfl pSu ?_
                  obtain ⟨b, hb⟩ := hprev (by omega)
                  have hb' : l[i - 1]? = some b := by rw [← hb]; congr 1; omega
                  first | refine epG HT 34 rfl (pIx es_22) ?_ | (refine obtEN 43 45 rfl rfl (by omega) (fun x46 hx46 => ?_); refine epG HT 34 rfl (pIs es_22 hx46) ?_) | (refine obtE 43 45 rfl rfl (by omega) (by omega) (fun x46 hx46 => ?_); refine epG HT 34 rfl (pIs es_22 hx46) ?_) | refine epG HT 34 rfl (pIo es_22) ?_
                  refine erG HT 35 rfl (by first | exact rSW ty_36 rfl | exact rSA ty_36) ?_
                  refine erG HT 36 rfl (by first | exact rBWa ty_36 | exact rBW ty_36 | exact rBA ty_36) ?_
                  refine e1G HT 37 rfl ?_
                  refine cv rfl rfl rfl (lents_refl _) graph_order ?_
                  refine efG HT 38 rfl pB ?_
                  refine efG HT 39 rfl pK ?_
                  refine ef HT 40 rfl pK ?_
                  refine eE HT ?_
                  clear HT
                  refine aCondDec rfl (fun c52 => ?_) (fun c52 => ?_)
                  · skip
                    refine aSeq ?_
                    refine aReg ?_
                    refine sp pMa ?_
                    refine oNil ?_
                    refine aRet ?_
                    refine finIs rfl ?_
                    have hs := arcs_step (p := prevA l i) hx10
                    show AV.int 1 = AV.int _
                    rw [hv, hs]
                    by_cases h0 : i = 0 <;> simp_all [arcB, ordA, prevA]
                    all_goals (intros; omega)
                  · skip
                    refine aSkip ?_
                    refine aReg ?_
                    refine sp pAd ?_
                    refine sp pM ?_
                    refine oNil ?_
                    refine ⟨i + 1, ?_, by (try dsimp only); omega, ⟨gInt rfl (by first | rfl | omega | simp), rfl, rfl, rfl, trivial⟩, _, (by repeat constructor)⟩
                    have hs := arcs_step (p := prevA l i) hx10
                    refine ⟨by omega, ?_⟩
                    rw [hv, hs, prevA_succ hx10]
                    by_cases h0 : i = 0 <;> simp_all [arcB, ordA, prevA]
                    all_goals (intros; omega)
                · skip
                  refine eS HT 31 rfl ?_
                  refine eS HT 32 rfl ?_
                  refine eS HT 33 rfl ?_
                  refine eS HT 34 rfl ?_
                  refine eS HT 35 rfl ?_
                  refine eS HT 36 rfl ?_
                  refine eS HT 37 rfl ?_
                  refine eS HT 38 rfl ?_
                  refine efG HT 39 rfl pK ?_
                  refine ef HT 40 rfl pK ?_
                  refine eE HT ?_
                  clear HT
                  refine aCondF rfl ?_
                  refine aSkip ?_
                  refine aReg ?_
                  refine sp pAd ?_
                  refine sp pM ?_
                  refine oNil ?_
                  refine ⟨i + 1, ?_, by (try dsimp only); omega, ⟨gInt rfl (by first | rfl | omega | simp), rfl, rfl, rfl, trivial⟩, _, (by repeat constructor)⟩
                  have hs := arcs_step (p := prevA l i) hx10
                  refine ⟨by omega, ?_⟩
                  rw [hv, hs, prevA_succ hx10]
                  by_cases h0 : i = 0 <;> simp_all [arcB, ordA, prevA]
                  all_goals (intros; omega)
    · skip
      refine aExit rfl ?_
      refine aSeq ?_
      refine aReg ?_
      refine sp pMa ?_
      refine oNil ?_
      refine aRet ?_
      refine finIs rfl ?_
      show AV.int 0 = AV.int _
      rw [hv, List.drop_of_length_le (by omega)]
      rfl
end A
end Go.Proofs.Ytmcannmjielalaa
set_option linter.unusedVariables false
set_option linter.unusedSimpArgs false
namespace Go.Proofs.Ytmcannmjielalaa
namespace A
def idxF {α : Type} (p : α → Bool) : List α → Int
  | [] => -1
  | x :: l => if p x then 0 else if idxF p l < 0 then -1 else idxF p l + 1
theorem idxF_no {α : Type} {p : α → Bool} : ∀ {l : List α}, (∀ x ∈ l, p x = false) → idxF p l = -1 ∧ l.find? p = none
  | [], _ => ⟨rfl, rfl⟩
  | x :: l, h => by
    have h1 := h x (by simp)
    obtain ⟨h2, h3⟩ := idxF_no (l := l) (fun y hy => h y (by simp [hy]))
    simp [idxF, List.find?, h1, h2, h3]
theorem idxF_at {α : Type} {p : α → Bool} : ∀ {l : List α} {i : Nat} {x : α}, (∀ y ∈ l.take i, p y = false) → l[i]? = some x → p x = true → idxF p l = i ∧ l.find? p = some x
  | [], _, _, _, h, _ => by simp at h
  | y :: l, 0, x, _, h, hp => by simp at h; subst h; simp [idxF, List.find?, hp]
  | y :: l, i + 1, x, h, hx, hp => by
    have h1 := h y (by simp)
    obtain ⟨h2, h3⟩ := idxF_at (l := l) (i := i) (fun z hz => h z (by simp [hz])) (by simpa using hx) hp
    simp only [idxF, List.find?, h1, h2, h3, Bool.false_eq_true, if_false]
    rw [if_neg (by omega)]
    refine ⟨by simp, ?_⟩
    first | rfl | trivial
theorem idxF_cases {α : Type} (p : α → Bool) (l : List α) : (idxF p l = -1 ∧ l.find? p = none) ∨ ∃ i x, idxF p l = (i : Nat) ∧ l[i]? = some x ∧ l.find? p = some x := by
  induction l with
  | nil => exact .inl ⟨rfl, rfl⟩
  | cons y l ih =>
    cases hp : p y with
    | true => exact .inr ⟨0, y, by simp [idxF, hp], rfl, by simp [List.find?, hp]⟩
    | false =>
      rcases ih with ⟨h1, h2⟩ | ⟨i, x, h1, h2, h3⟩
      · exact .inl ⟨by simp [idxF, hp, h1], by simp [List.find?, hp, h2]⟩
      · refine .inr ⟨i + 1, x, ?_, by simpa using h2, by simp [List.find?, hp, h3]⟩
        simp only [idxF, hp, h1, Bool.false_eq_true, if_false]
        rw [if_neg (by omega)]
        simp
end A
end Go.Proofs.Ytmcannmjielalaa
set_option linter.unusedVariables false
set_option linter.unusedSimpArgs false
namespace Go.Proofs.Ytmcannmjielalaa
namespace A
theorem el_25 : elemOf Try.prog 25 = some (3, 1, 8) := by kernel_rfl
theorem ty_144 : tyOf Try.prog 144 = some (1, false) := by kernel_rfl
theorem ty_158 : tyOf Try.prog 158 = some (1, false) := by kernel_rfl
theorem ty_25 : tyOf Try.prog 25 = some (1, false) := by kernel_rfl
theorem um_144 : Try.prog.underlying 144 = some (.map 3 4) := by kernel_rfl
theorem um_158 : Try.prog.underlying 158 = some (.map 3 49) := by kernel_rfl
/- maps.Keys[map[int]bool,int,bool]$1 -/
set_option maxRecDepth 100000 in
set_option maxHeartbeats 400000 in
theorem keys1_mib (b pb : Nat) (kvs : List (Int × AV)) (l : Nat) (I : List (List AV) → List HA → Prop) (S : List HA → Prop) (hy : ∀ pre x hc, KNx kvs pre x → I pre hc → YTriple Try.prog l x hc (fun r h' => ∃ v : Bool, r = .v (.bool v) ∧ (v = true → I (pre ++ [x]) h') ∧ (v = false → S h'))) (hc0 : List HA) (h0 : I [] hc0) : Triple Try.prog 215 [.fn (.yield l) [], .v (.pointer (some ⟨pb, 0, none⟩))] (.box pb [.v (.map (some b))] :: .map b kvs :: hc0) (fun r h' => ∃ hc', h' = .box pb [.v (.map (some b))] :: .map b kvs :: hc' ∧ ((∃ xs, KE kvs xs ∧ I xs hc') ∨ S hc')) := by
  refine triple_of Try.func215 rfl (by kernel_rfl) rfl (by simp) ?_
  refine aSeq ?_
  refine aReg ?_
  refine sr (rB1 ty_144) ?_
  refine sa ?_
  refine oRange rfl rfl (by decide) rfl (by repeat constructor) um_144 (fun r5 => ?_)
  refine oNil ?_
  refine aBlock ?_
  refine aLoopI (α := List Nat × List HA) (fun (idx, hc) => Idx kvs.length idx ∧ I (idx.map fun i => intA (keyAt kvs i)) hc) (fun (idx, hc) => ([(0, .fn (.yield l) []), (5, .v (.pointer (some ⟨r5, 0, none⟩)))], .mapIt b r5 kvs idx :: .box pb [.v (.map (some b))] :: hc)) (fun (idx, hc) => kvs.length - idx.length) ([], hc0) ?_ ?_ ?_
  · skip
    exact ⟨Idx.nil, h0⟩
  · skip
    exact weak_env ⟨rfl, rfl, trivial⟩
  · rintro ⟨idx, hc⟩ ⟨hix, hi⟩
    skip
    refine aSeq ?_
    refine aReg ?_
    refine sa ?_
    refine oNextR rfl rfl (by decide) rfl (by repeat constructor) (fun t6 ks6 ix6 hn6 => ?_)
    refine sp pX ?_
    refine oNil ?_
    refine aSeq ?_
    refine aCond rfl (fun c7 => ?_) (fun c7 => ?_)
    · skip
      refine aSkip ?_
      refine aBlock ?_
      refine aSeq ?_
      refine aReg ?_
      obtain ⟨i, kv, hkv, hni, rfl, rfl⟩ := hn6.yes c7
      refine sr (rEntry rfl rfl (by repeat constructor) hkv) ?_
      refine sp pX ?_
      refine sp pMa ?_
      refine oNil ?_
      refine aSeq ?_
      refine aReg ?_
      refine sp pM ?_
      refine sp pM ?_
      refine oYield (hfr := [.mapIt b r5 kvs (idx ++ [i]), .box pb [.v (.map (some b))]]) rfl rfl rfl (by decide) rfl rfl (hy _ (intA kv.1) hc (hix.knx hkv hni) hi) ?_
      rintro _ h2 ⟨v, rfl, hq1, hq2⟩
      refine sp pNo ?_
      refine oNil ?_
      refine aCondNot rfl (fun c13 => ?_) (fun c13 => ?_)
      · skip
        refine aWeak (weak_unmap .hd) ?_
        refine aRet ?_
        exact ⟨_, _, [], rfl, .cons (.tl .hd) (.cons .hd tk_refl), h2, rfl, .inr (hq2 (by simpa using c13))⟩
      · skip
        refine aSkip ?_
        have hil := (List.getElem?_eq_some_iff.1 hkv).1
        have hlt := hix.lt hil hni
        have hq := hq1 (by simpa using c13)
        refine ⟨(idx ++ [i], h2), ⟨hix.add hil hni, ?_⟩, by show kvs.length - (idx ++ [i]).length < kvs.length - idx.length; simp only [List.length_append, List.length_cons, List.length_nil]; omega, weak_env ⟨rfl, rfl, trivial⟩⟩
        rw [List.map_append, List.map_singleton, keyAt_get hkv]
        exact hq
    · skip
      obtain ⟨rfl, rfl, hall⟩ := hn6.no c7
      refine aWeak (weak_unmap .hd) ?_
      refine aExit rfl ?_
      exact ⟨_, _, [], rfl, .cons (.tl .hd) (.cons .hd tk_refl), hc, rfl, .inl ⟨_, hix.ke hall, hi⟩⟩
/- api.Route]$1 -/
set_option maxRecDepth 100000 in
set_option maxHeartbeats 400000 in
theorem keys1_mir (b pb : Nat) (kvs : List (Int × AV)) (l : Nat) (I : List (List AV) → List HA → Prop) (S : List HA → Prop) (hy : ∀ pre x hc, KNx kvs pre x → I pre hc → YTriple Try.prog l x hc (fun r h' => ∃ v : Bool, r = .v (.bool v) ∧ (v = true → I (pre ++ [x]) h') ∧ (v = false → S h'))) (hc0 : List HA) (h0 : I [] hc0) : Triple Try.prog 223 [.fn (.yield l) [], .v (.pointer (some ⟨pb, 0, none⟩))] (.box pb [.v (.map (some b))] :: .map b kvs :: hc0) (fun r h' => ∃ hc', h' = .box pb [.v (.map (some b))] :: .map b kvs :: hc' ∧ ((∃ xs, KE kvs xs ∧ I xs hc') ∨ S hc')) := by
  refine triple_of Try.func223 rfl (by kernel_rfl) rfl (by simp) ?_
  refine aSeq ?_
  refine aReg ?_
  refine sr (rB1 ty_158) ?_
  refine sa ?_
  refine oRange rfl rfl (by decide) rfl (by repeat constructor) um_158 (fun r5 => ?_)
  refine oNil ?_
  refine aBlock ?_
  refine aLoopI (α := List Nat × List HA) (fun (idx, hc) => Idx kvs.length idx ∧ I (idx.map fun i => intA (keyAt kvs i)) hc) (fun (idx, hc) => ([(0, .fn (.yield l) []), (5, .v (.pointer (some ⟨r5, 0, none⟩)))], .mapIt b r5 kvs idx :: .box pb [.v (.map (some b))] :: hc)) (fun (idx, hc) => kvs.length - idx.length) ([], hc0) ?_ ?_ ?_
  · skip
    exact ⟨Idx.nil, h0⟩
  · skip
    exact weak_env ⟨rfl, rfl, trivial⟩
  · rintro ⟨idx, hc⟩ ⟨hix, hi⟩
    skip
    refine aSeq ?_
    refine aReg ?_
    refine sa ?_
    refine oNextR rfl rfl (by decide) rfl (by repeat constructor) (fun t6 ks6 ix6 hn6 => ?_)
    refine sp pX ?_
    refine oNil ?_
    refine aSeq ?_
    refine aCond rfl (fun c7 => ?_) (fun c7 => ?_)
    · skip
      refine aSkip ?_
      refine aBlock ?_
      refine aSeq ?_
      refine aReg ?_
      obtain ⟨i, kv, hkv, hni, rfl, rfl⟩ := hn6.yes c7
      refine sr (rEntry rfl rfl (by repeat constructor) hkv) ?_
      refine sp pX ?_
      refine sp pMa ?_
      refine oNil ?_
      refine aSeq ?_
      refine aReg ?_
      refine sp pM ?_
      refine sp pM ?_
      refine oYield (hfr := [.mapIt b r5 kvs (idx ++ [i]), .box pb [.v (.map (some b))]]) rfl rfl rfl (by decide) rfl rfl (hy _ (intA kv.1) hc (hix.knx hkv hni) hi) ?_
      rintro _ h2 ⟨v, rfl, hq1, hq2⟩
      refine sp pNo ?_
      refine oNil ?_
      refine aCondNot rfl (fun c13 => ?_) (fun c13 => ?_)
      · skip
        refine aWeak (weak_unmap .hd) ?_
        refine aRet ?_
        exact ⟨_, _, [], rfl, .cons (.tl .hd) (.cons .hd tk_refl), h2, rfl, .inr (hq2 (by simpa using c13))⟩
      · skip
        refine aSkip ?_
        have hil := (List.getElem?_eq_some_iff.1 hkv).1
        have hlt := hix.lt hil hni
        have hq := hq1 (by simpa using c13)
        refine ⟨(idx ++ [i], h2), ⟨hix.add hil hni, ?_⟩, by show kvs.length - (idx ++ [i]).length < kvs.length - idx.length; simp only [List.length_append, List.length_cons, List.length_nil]; omega, weak_env ⟨rfl, rfl, trivial⟩⟩
        rw [List.map_append, List.map_singleton, keyAt_get hkv]
        exact hq
    · skip
      obtain ⟨rfl, rfl, hall⟩ := hn6.no c7
      refine aWeak (weak_unmap .hd) ?_
      refine aExit rfl ?_
      exact ⟨_, _, [], rfl, .cons (.tl .hd) (.cons .hd tk_refl), hc, rfl, .inl ⟨_, hix.ke hall, hi⟩⟩
theorem keys1_mir_iter (b pb : Nat) (kvs : List (Int × AV)) : IterT Try.prog 223 [.v (.pointer (some ⟨pb, 0, none⟩))] (KNx kvs) (KE kvs) [.box pb [.v (.map (some b))], .map b kvs] :=
  ⟨⟨_, Try.func223, by kernel_rfl, rfl⟩, fun l I S hy hc h0 => keys1_mir b pb kvs l I S (fun pre x hc hn hi => (hy pre x hc hn hi).bool) hc h0⟩
/- api.Route] -/
set_option maxRecDepth 100000 in
set_option maxHeartbeats 400000 in
theorem keys_mir (b : Nat) : Triple Try.prog 128 [.v (.map (some b))] [] (fun r h' => ∃ pb, r = .fn (.func 223) [.v (.pointer (some ⟨pb, 0, none⟩))] ∧ h' = [.box pb [.v (.map (some b))]]) := by
  refine triple_of Try.func128 rfl (by kernel_rfl) rfl (by simp) ?_
  refine aSeq ?_
  refine aReg ?_
  refine sq ?_
  refine qBox rfl rfl (by decide) rfl rfl (fun b1 => ?_)
  refine sp pMa ?_
  refine oNil ?_
  refine aSeq ?_
  refine aReg ?_
  refine sp (pFn rfl rfl) ?_
  refine sp pMa ?_
  refine oNil ?_
  refine aRet ?_
  exact ⟨_, [_], [], rfl, .cons .hd .nil, b1, rfl, rfl⟩
def srt_ren : Go.Shelf.Ren := ⟨fun | 189 => 193 | 125 => 243 | 257 => 254 | 128 => 282 | 129 => 283 | 294 => 308 | 295 => 309 | 296 => 310 | 297 => 311 | 298 => 312 | 299 => 313 | 216 => 227 | 300 => 314 | 301 => 315 | 328 => 333 | 329 => 320 | 330 => 321 | 331 => 334 | 332 => 335 | 215 => 246 | 343 => 341 | n => n, fun | 28 => 25 | 3 => 3 | 46 => 270 | 0 => 0 | 51 => 313 | 53 => 37 | 4 => 4 | 183 => 307 | 182 => 306 | 131 => 175 | 5 => 5 | 9 => 9 | 218 => 341 | 222 => 344 | 228 => 354 | 229 => 187 | n => n, fun | n => n⟩
theorem srt : Go.Proofs.Lays.n189 Try.prog srt_ren := {
  mixed := by kernel_rfl,
  f125 := Try.func243.trans (congrArg some (by kernel_rfl)),
  f128 := Try.func282.trans (congrArg some (by kernel_rfl)),
  f129 := Try.func283.trans (congrArg some (by kernel_rfl)),
  f189 := Try.func193.trans (congrArg some (by kernel_rfl)),
  f215 := Try.func246.trans (congrArg some (by kernel_rfl)),
  f216 := Try.func227.trans (congrArg some (by kernel_rfl)),
  f257 := Try.func254.trans (congrArg some (by kernel_rfl)),
  f294 := Try.func308.trans (congrArg some (by kernel_rfl)),
  f295 := Try.func309.trans (congrArg some (by kernel_rfl)),
  f296 := Try.func310.trans (congrArg some (by kernel_rfl)),
  f297 := Try.func311.trans (congrArg some (by kernel_rfl)),
  f298 := Try.func312.trans (congrArg some (by kernel_rfl)),
  f299 := Try.func313.trans (congrArg some (by kernel_rfl)),
  f300 := Try.func314.trans (congrArg some (by kernel_rfl)),
  f301 := Try.func315.trans (congrArg some (by kernel_rfl)),
  f328 := Try.func333.trans (congrArg some (by kernel_rfl)),
  f329 := Try.func320.trans (congrArg some (by kernel_rfl)),
  f330 := Try.func321.trans (congrArg some (by kernel_rfl)),
  f331 := Try.func334.trans (congrArg some (by kernel_rfl)),
  f332 := Try.func335.trans (congrArg some (by kernel_rfl)),
  f343 := Try.func341.trans (congrArg some (by kernel_rfl)),
  t0 := Try.underlying0,
  a0 := Try.isAgg0,
  z0 := Try.sizeOf0,
  v0 := Try.zeroValue0,
  t3 := Try.underlying3,
  a3 := Try.isAgg3,
  z3 := Try.sizeOf3,
  v3 := Try.zeroValue3,
  t4 := Try.underlying4,
  a4 := Try.isAgg4,
  z4 := Try.sizeOf4,
  v4 := Try.zeroValue4,
  t5 := Try.underlying5,
  a5 := Try.isAgg5,
  z5 := Try.sizeOf5,
  v5 := Try.zeroValue5,
  t9 := Try.underlying9,
  a9 := Try.isAgg9,
  z9 := Try.sizeOf9,
  v9 := Try.zeroValue9,
  t28 := Try.underlying25,
  a28 := Try.isAgg25,
  z28 := Try.sizeOf25,
  v28 := Try.zeroValue25,
  t46 := Try.underlying270,
  a46 := Try.isAgg270,
  z46 := Try.sizeOf270,
  v46 := Try.zeroValue270,
  t51 := Try.underlying313,
  a51 := Try.isAgg313,
  z51 := Try.sizeOf313,
  v51 := Try.zeroValue313,
  t53 := Try.underlying37,
  a53 := Try.isAgg37,
  z53 := Try.sizeOf37,
  v53 := Try.zeroValue37,
  t131 := Try.underlying175,
  a131 := Try.isAgg175,
  z131 := Try.sizeOf175,
  v131 := Try.zeroValue175,
  t182 := Try.underlying306,
  a182 := Try.isAgg306,
  z182 := Try.sizeOf306,
  v182 := Try.zeroValue306,
  t183 := Try.underlying307,
  a183 := Try.isAgg307,
  z183 := Try.sizeOf307,
  v183 := Try.zeroValue307,
  t218 := Try.underlying341,
  a218 := Try.isAgg341,
  z218 := Try.sizeOf341,
  v218 := Try.zeroValue341,
  t222 := Try.underlying344,
  a222 := Try.isAgg344,
  z222 := Try.sizeOf344,
  v222 := Try.zeroValue344,
  t228 := Try.underlying354,
  a228 := Try.isAgg354,
  z228 := Try.sizeOf354,
  v228 := Try.zeroValue354,
  t229 := Try.underlying187,
  a229 := Try.isAgg187,
  z229 := Try.sizeOf187,
  v229 := Try.zeroValue187 }
/- slices.AppendSeq[[]int,int] -/
set_option maxRecDepth 100000 in
set_option maxHeartbeats 400000 in
theorem appendSeq_int (gf : FuncId) (caps : List AV) (kvs : List (Int × AV)) (hit : List HA) (it : IterT Try.prog gf caps (KNx kvs) (KE kvs) hit) (hl : kvs.length ≤ 1000000) : Triple Try.prog 262 [(.v (.slice none 0 0)), .fn (.func gf) caps] hit (fun r h' => ∃ (ks : List Int) (g : Option Nat) (c : Nat), r = .v (slV g ks.length c) ∧ h' = .sl g c 3 1 (ks.map intA) :: hit ∧ ks.Perm (kvs.map Prod.fst)) := by
  refine triple_of Try.func262 rfl (by kernel_rfl) rfl (by simp) ?_
  refine aSeq ?_
  refine aReg ?_
  refine sq ?_
  refine qBox rfl rfl (by decide) rfl rfl (fun b2 => ?_)
  refine sp pMa ?_
  refine oNil ?_
  refine aSeq ?_
  refine aSeq ?_
  refine aReg ?_
  refine sp pM ?_
  refine oNil ?_
  refine aBlock ?_
  refine aRangeFunc (α := List Int × Option Nat × Nat) (fun (ks, g, c) => [.sl g c 3 1 (ks.map intA), .box b2 [.v (slV g ks.length c)]]) (fun pre (ks, g, c) => pre = ks.map intA) ([], none, 0) rfl (by decide) it ?_ ?_ ?_ ?_ ?_
  · skip
    rintro _ _ ⟨_, _, _, rfl, _⟩; rfl
  · skip
    refine Weak.trans (weak_nil 3 1) ?_
    exact weak_perm (List.perm_append_comm (l₁ := [_, _]))
  · skip
    rfl
  · rintro pre x ⟨ks, g, c⟩ ⟨ks', k, hpre, rfl, hkl⟩ hJ
    replace hJ : pre = ks.map intA := hJ
    obtain rfl : ks = ks' := intA_inj (hJ.symm.trans hpre)
    refine aReg ?_
    refine sp pMa ?_
    refine oNil ?_
    refine aBlock ?_
    refine aReg ?_
    refine sr (by first | exact rS1 ty_25 | exact rB1 ty_25 | exact rAr ty_25 | exact rArL ty_25 | exact rArR2 ty_25) ?_
    refine sp pM ?_
    refine sq ?_
    refine qLit (l := [_]) rfl rfl (by decide) us_25 ty_3 ze_3 rfl (by decide) (by decide) rfl rfl rfl (fun b10 => ?_)
    refine sa ?_
    refine oAppT [_] rfl rfl (by repeat constructor) (srcOwn rfl (by repeat constructor) rfl) el_25 sl_25 (fun g11 k11 => ?_)
    refine sa ?_
    refine oStB rfl rfl rfl rfl (by repeat constructor) ty_25 rfl (Nat.le_of_ble_eq_true rfl) rfl ?_
    refine oNil ?_
    refine ⟨(ks ++ [k], g11, k11), by show pre ++ _ = List.map intA (ks ++ [k]); rw [List.map_append, hJ]; rfl, ?_⟩
    simp only [List.map_append, List.map_cons, List.map_nil, List.length_append, List.length_cons, List.length_nil, List.length_map]
    exact weak_sub trivial (by repeat constructor)
  · rintro xs ⟨ks, g, c⟩ hE hJ
    try dsimp only [List.nil_append, List.cons_append]
    replace hJ : xs = ks.map intA := hJ
    obtain ⟨ks', hks, hperm⟩ := hE
    obtain rfl : ks = ks' := intA_inj (hJ.symm.trans hks)
    refine aWeak (weak_perm List.perm_append_comm) ?_
    refine aSeq ?_
    refine aReg ?_
    refine sr (by first | exact rS1 ty_25 | exact rB1 ty_25 | exact rAr ty_25 | exact rArL ty_25 | exact rArR2 ty_25) ?_
    refine sp pMa ?_
    refine oNil ?_
    refine aRet ?_
    exact ⟨_, _ :: hit, [_], rfl, .cons .hd (tk_after (l := [_])), ks, g, c, rfl, rfl, hperm⟩
/- slices.Collect[int] -/
set_option maxRecDepth 100000 in
set_option maxHeartbeats 400000 in
theorem collect_int (gf : FuncId) (caps : List AV) (kvs : List (Int × AV)) (hit : List HA) (it : IterT Try.prog gf caps (KNx kvs) (KE kvs) hit) (hl : kvs.length ≤ 1000000) : Triple Try.prog 214 [.fn (.func gf) caps] hit (fun r h' => ∃ (ks : List Int) (g : Option Nat) (c : Nat), r = .v (slV g ks.length c) ∧ h' = .sl g c 3 1 (ks.map intA) :: hit ∧ ks.Perm (kvs.map Prod.fst)) := by
  refine triple_of Try.func214 rfl (by kernel_rfl) rfl (by simp) ?_
  refine aSeq ?_
  refine aReg ?_
  refine sp pMa ?_
  refine oNil ?_
  refine aSeq ?_
  refine aReg ?_
  refine sp pM ?_
  refine sa ?_
  refine aCall (hin := hit) (hfr := []) rfl rfl (by decide) rfl rfl tk_refl (appendSeq_int gf caps kvs hit it hl) ?_
  rintro _ _ ⟨ks, g, c, rfl, rfl, hperm⟩
  refine sp pMa ?_
  refine oNil ?_
  refine aRet ?_
  refine ⟨_, _ :: hit, [], rfl, ?_, ks, g, c, rfl, rfl, hperm⟩
  rw [List.append_nil]
  exact tk_refl
/- slices.Sorted[int] -/
set_option maxRecDepth 100000 in
set_option maxHeartbeats 400000 in
theorem sorted_int (gf : FuncId) (caps : List AV) (kvs : List (Int × AV)) (hit : List HA) (it : IterT Try.prog gf caps (KNx kvs) (KE kvs) hit) (hl : kvs.length ≤ 1000000) : Triple Try.prog 118 [.fn (.func gf) caps] hit (fun r h' => ∃ g c, r = .v (slV g (sortI (kvs.map Prod.fst)).length c) ∧ h' = .sl g c 3 1 ((sortI (kvs.map Prod.fst)).map intA) :: hit) := by
  refine triple_of Try.func118 rfl (by kernel_rfl) rfl (by simp) ?_
  refine aSeq ?_
  refine aReg ?_
  refine sp pMa ?_
  refine oNil ?_
  refine aSeq ?_
  refine aReg ?_
  refine sp pM ?_
  refine sa ?_
  refine aCall (hin := hit) (hfr := []) rfl rfl (by decide) rfl rfl tk_refl (collect_int gf caps kvs hit it hl) ?_
  rintro _ _ ⟨ks, g, c, rfl, rfl, hperm⟩
  refine sp pMa ?_
  refine oNil ?_
  refine aSeq ?_
  refine aReg ?_
  refine sp pM ?_
  refine sa ?_
  refine aCall (hin := [_]) (hfr := hit ++ []) rfl rfl (by decide) rfl rfl (.cons .hd .nil) (triple_sort srt rfl ⟨_, Try.func193, by kernel_rfl, rfl⟩ g c 3 ks (by have := hperm.length_eq; rw [List.length_map] at this; omega)) ?_
  rintro _ _ ⟨rfl, rfl⟩
  refine oNil ?_
  refine aSeq ?_
  refine aReg ?_
  refine sp pM ?_
  refine sp pMa ?_
  refine oNil ?_
  refine aRet ?_
  have hs : sortI ks = sortI (kvs.map Prod.fst) := sortI_perm hperm
  refine ⟨_, .sl g c 3 1 ((sortI ks).map intA) :: hit, [], rfl, ?_, g, c, ?_, ?_⟩
  · show Tk (_ :: (hit ++ [])) _ _
    rw [List.append_nil]
    exact tk_refl
  · rw [← hs, sortI_length]; rfl
  · rw [hs]
theorem sorted_int_s (gf : FuncId) (caps : List AV) (kvs : List (Int × AV)) (hit : List HA) (it : IterT Try.prog gf caps (KNx kvs) (KE kvs) hit) (hl : kvs.length ≤ 1000000) : Triple Try.prog 118 [.fn (.func gf) caps] hit (Is (.sl 1 ((sortI (kvs.map Prod.fst)).map intA)) hit) :=
  ((sorted_int gf caps kvs hit it hl).mono (Q' := Own 3 1 ((sortI (kvs.map Prod.fst)).map intA) hit) fun q h' ⟨g, c, hq, hh⟩ => ⟨g, c, by rw [List.length_map]; exact hq, hh⟩).settle
end A
end Go.Proofs.Ytmcannmjielalaa
set_option linter.unusedVariables false
set_option linter.unusedSimpArgs false
namespace Go.Proofs.Ytmcannmjielalaa
namespace A
theorem el_22 : elemOf Try.prog 22 = some (36, 3, 24) := by kernel_rfl
theorem eq_36 : eqType Try.prog 36 = some [(0, .i), (1, .i), (2, .i)] := by kernel_rfl
theorem mo_144 : mapOf Try.prog 144 = some (3, 4) := by kernel_rfl
theorem us_22 : Try.prog.underlying 22 = some (.slice 36) := by kernel_rfl
end A
end Go.Proofs.Ytmcannmjielalaa
set_option linter.unusedVariables false
set_option linter.unusedSimpArgs false
namespace Go.Proofs.Ytmcannmjielalaa
namespace A
theorem filter_take {α : Type} {p : α → Bool} {l : List α} {i : Nat} {a : α} (h : l[i]? = some a) : (l.take (i + 1)).filter p = (l.take i).filter p ++ if p a then [a] else [] := by
  rw [take_step h, List.filter_append]
  cases hp : p a <;> simp [hp]
theorem filter_len {α : Type} {p : α → Bool} {l : List α} {i : Nat} : ((l.take i).filter p).length ≤ i := by
  refine Nat.le_trans (List.length_filter_le _ _) ?_
  rw [List.length_take]
  omega
end A
end Go.Proofs.Ytmcannmjielalaa
set_option linter.unusedVariables false
set_option linter.unusedSimpArgs false
namespace Go.Proofs.Ytmcannmjielalaa
namespace A
theorem es_139 : elemSize Try.prog 139 = some 2 := by kernel_rfl
theorem es_55 : elemSize Try.prog 55 = some 3 := by kernel_rfl
theorem fd_138_0 : fieldOf Try.prog 138 0 = some (0, 1, false) := by kernel_rfl
theorem fd_138_1 : fieldOf Try.prog 138 1 = some (1, 1, false) := by kernel_rfl
theorem fd_141_0 : fieldOf Try.prog 141 0 = some (0, 1, false) := by kernel_rfl
theorem fd_141_1 : fieldOf Try.prog 141 1 = some (1, 1, false) := by kernel_rfl
theorem fd_141_2 : fieldOf Try.prog 141 2 = some (2, 1, false) := by kernel_rfl
theorem mo_253 : mapOf Try.prog 253 = some (3, 141) := by kernel_rfl
theorem sl_139 : isSl Try.prog 139 = true := by kernel_rfl
theorem sl_55 : isSl Try.prog 55 = true := by kernel_rfl
theorem st_141 : structPlaces Try.prog 141 = some [(0, 1), (1, 1), (2, 1)] := by kernel_rfl
theorem st_36 : structPlaces Try.prog 36 = some [(0, 1), (1, 1), (2, 1)] := by kernel_rfl
theorem ty_138 : tyOf Try.prog 138 = some (2, true) := by kernel_rfl
theorem ty_139 : tyOf Try.prog 139 = some (1, false) := by kernel_rfl
theorem ty_141 : tyOf Try.prog 141 = some (3, true) := by kernel_rfl
theorem ze_138 : zeroOf Try.prog 138 = some (.agg #[.int .i64 0, .int .i64 0]) := by kernel_rfl
theorem ze_141 : zeroOf Try.prog 141 = some (.agg #[.int .i64 0, .int .i64 0, .slice none 0 0]) := by kernel_rfl
structure Link where
  t : Int
  c : Int
  deriving DecidableEq
structure Lsa where
  o : Int
  s : Int
  ls : List Link
  deriving DecidableEq
def linkC (x : Link) : List AV := [.int x.t, .int x.c]
def lsaC (l : Lsa) : List AV := [.int l.o, .int l.s, .sl 2 (l.ls.map linkC)]
/-- Links from a place on, behind the last node. -/
def linksB (o : Int) : Int → List Link → Bool
  | _, [] => true
  | last, x :: l => (nodeB x.t && decide (last < x.t) && !(x.t == o) && decide (1 ≤ x.c) && decide (x.c ≤ 1073741824)) && linksB o x.t l
def lsaB (l : Lsa) : Bool := nodeB l.o && decide (1 ≤ l.s) && decide (l.s ≤ 4611686018427387904) && decide (l.ls.length ≤ 16) && linksB l.o 0 l.ls
theorem links_step {o last : Int} {l : List Link} {i : Nat} {x : Link} (h : l[i]? = some x) : linksB o last (l.drop i) = ((nodeB x.t && decide (last < x.t) && !(x.t == o) && decide (1 ≤ x.c) && decide (x.c ≤ 1073741824)) && linksB o x.t (l.drop (i + 1))) := by
  rw [drop_step h]
  rfl
/- lsa.node -/
set_option maxRecDepth 100000 in
set_option maxHeartbeats 400000 in
theorem lsa_node (n : Int) : Triple Try.prog 269 [AV.int n] [] (fun r h' => r = .v (.bool (nodeB n)) ∧ h' = []) := by
  refine triple_of Try.func269 rfl (by kernel_rfl) rfl (by simp) ?_
  refine aSeq ?_
  refine aReg ?_
  refine sp pMa ?_
  refine oNil ?_
  refine aSeq ?_
  refine aReg ?_
  refine sp pM ?_
  refine sp pB ?_
  refine sp pM ?_
  refine oSplitDec 5 rfl (fun c5 => ?_) (fun c5 => ?_)
  · skip
    refine gp pM ?_
    refine gp pB ?_
    refine sp pK ?_
    refine sp pMa ?_
    refine oNil ?_
    refine aRet ?_
    refine ⟨_, [], _, rfl, .nil, ?_, rfl⟩
    simp [retOf, nodeB]
    omega
  · skip
    refine gf ?_
    refine gf ?_
    refine sp pK ?_
    refine sp pMa ?_
    refine oNil ?_
    refine aRet ?_
    refine ⟨_, [], _, rfl, .nil, ?_, rfl⟩
    simp [retOf, nodeB]
    omega
/- lsa.Check -/
set_option maxRecDepth 100000 in
set_option maxHeartbeats 2000000 in
theorem lsa_Check (l : Lsa) : Triple Try.prog 230 [AV.agg (lsaC l)] [] (fun r h' => r = .int (if lsaB l then 0 else 1) ∧ h' = []) := by
  refine triple_of Try.func230 rfl (by kernel_rfl) rfl (by simp) ?_
  refine aSeq ?_
  refine aReg ?_
  refine sq ?_
  refine qBox rfl rfl (by decide) rfl rfl (fun b1 => ?_)
  refine sp pMa ?_
  refine oNil ?_
  refine aSeq ?_
  refine aSeq ?_
  refine aReg ?_
  refine sp (pFb fd_141_0) ?_
  refine sr (rB1 ty_3) ?_
  refine sq ?_
  refine qCallV rfl rfl (by decide) rfl rfl (lents_refl _) (lsa_node _) ?_
  refine sp pNo ?_
  refine sp pM ?_
  refine oSplitNot 10 rfl (fun c10 => ?_) (fun c10 => ?_)
  · skip
    refine gf ?_
    refine gf ?_
    refine gf ?_
    refine sp pK ?_
    refine sp pM ?_
    refine gf ?_
    refine gf ?_
    refine gf ?_
    refine sp pK ?_
    refine sp pM ?_
    refine gf ?_
    refine gf ?_
    refine gf ?_
    refine gf ?_
    refine sp pK ?_
    refine oNil ?_
    refine aCondT rfl ?_
    refine aSeq ?_
    refine aReg ?_
    refine sp pMa ?_
    refine oNil ?_
    refine aRet ?_
    refine ⟨_, [], _, rfl, .nil, ?_, rfl⟩
    show AV.int 1 = AV.int _
    simp_all [lsaB]
    all_goals (intros; omega)
  · skip
    refine gp (pFb fd_141_1) ?_
    refine gr (rB1 ty_3) ?_
    refine gp pB ?_
    refine sp pK ?_
    refine sp pM ?_
    refine oSplitDec 15 rfl (fun c15 => ?_) (fun c15 => ?_)
    · skip
      refine gf ?_
      refine gf ?_
      refine gf ?_
      refine sp pK ?_
      refine sp pM ?_
      refine gf ?_
      refine gf ?_
      refine gf ?_
      refine gf ?_
      refine sp pK ?_
      refine oNil ?_
      refine aCondT rfl ?_
      refine aSeq ?_
      refine aReg ?_
      refine sp pMa ?_
      refine oNil ?_
      refine aRet ?_
      refine ⟨_, [], _, rfl, .nil, ?_, rfl⟩
      show AV.int 1 = AV.int _
      simp_all [lsaB]
      all_goals (intros; omega)
    · skip
      refine gp (pFb fd_141_1) ?_
      refine gr (rB1 ty_3) ?_
      refine gp pB ?_
      refine sp pK ?_
      refine sp pM ?_
      refine oSplitDec 20 rfl (fun c20 => ?_) (fun c20 => ?_)
      · skip
        refine gf ?_
        refine gf ?_
        refine gf ?_
        refine gf ?_
        refine sp pK ?_
        refine oNil ?_
        refine aCondT rfl ?_
        refine aSeq ?_
        refine aReg ?_
        refine sp pMa ?_
        refine oNil ?_
        refine aRet ?_
        refine ⟨_, [], _, rfl, .nil, ?_, rfl⟩
        show AV.int 1 = AV.int _
        simp_all [lsaB]
        all_goals (intros; omega)
      · skip
        refine gp (pFb fd_141_2) ?_
        refine gr (rB1 ty_139) ?_
        refine gp (by first | exact pLm sl_139 | exact pLs sl_139 | exact pLv sl_139) ?_
        refine gp pB ?_
        refine sp pK ?_
        refine oNil ?_
        refine aCondDec rfl (fun c25 => ?_) (fun c25 => ?_)
        · skip
          refine aSeq ?_
          refine aReg ?_
          refine sp pMa ?_
          refine oNil ?_
          refine aRet ?_
          refine ⟨_, [], _, rfl, .nil, ?_, rfl⟩
          show AV.int 1 = AV.int _
          simp_all [lsaB]
          all_goals (intros; omega)
        · skip
          refine aSkip ?_
          refine aSeq ?_
          refine aReg ?_
          refine sp pMa ?_
          refine oNil ?_
          refine aSeq ?_
          refine aSeq ?_
          refine aReg ?_
          refine sp (pFb fd_141_2) ?_
          refine sr (rB1 ty_139) ?_
          refine sp (by first | exact pLm sl_139 | exact pLs sl_139 | exact pLv sl_139) ?_
          refine sp pM ?_
          refine oNil ?_
          refine aBlock ?_
          refine aLoopI (α := Nat × Int) (fun (i, last) => i ≤ l.ls.length ∧ linksB l.o 0 l.ls = linksB l.o last (l.ls.drop i)) (fun (i, last) => ([(1, .v (.pointer (some ⟨b1, 0, none⟩))), (3, .int last), (27, .sl 2 (l.ls.map linkC)), (28, .int l.ls.length), (29, .int i)], [.box b1 (lsaC l)])) (fun (i, last) => l.ls.length - i) (0, 0) ?_ ?_ ?_
          · skip
            exact ⟨by omega, rfl⟩
          · skip
            exact weak_sub ⟨rfl, rfl, rfl, gInt rfl (by simp), rfl, trivial⟩ (by repeat constructor)
          · rintro ⟨i, last⟩ ⟨hi, hv⟩
            skip
            refine aSeq ?_
            refine aReg ?_
            have hlen : l.ls.length ≤ 16 := by simp at *; omega
            refine sp pB ?_
            refine oNil ?_
            refine aSeq ?_
            refine aCondDec rfl (fun c30 => ?_) (fun c30 => ?_)
            · skip
              refine aSkip ?_
              refine aSeq ?_
              refine aBlock ?_
              refine aSeq ?_
              refine aReg ?_
              obtain ⟨a, ha⟩ : ∃ a, l.ls[i]? = some a := ⟨_, List.getElem?_eq_getElem (by omega)⟩
              refine sp (pIdxS rfl rfl rfl es_139 (by omega) (map_get (f := linkC) ha)) ?_
              refine sr (by first | exact rSW ty_138 rfl | exact rSA ty_138 | exact rBWa ty_138 | exact rBW ty_138 | exact rBA ty_138 | exact rArA ty_138 (fun _ => rfl)) ?_
              refine sq ?_
              refine qAlloc rfl rfl (by decide) ze_138 rfl (fun b5 => ?_)
              refine sa ?_
              refine oStW rfl rfl rfl rfl (by repeat constructor) ty_138 ?_
              refine oNil ?_
              refine aSeq ?_
              refine aSeq ?_
              refine aReg ?_
              refine sp (pFb fd_138_0) ?_
              refine sr (rB1 ty_3) ?_
              refine sq ?_
              refine qCallV rfl rfl (by decide) rfl rfl (lents_refl _) (lsa_node _) ?_
              refine sp pNo ?_
              refine sp pM ?_
              refine oSplitNot 37 rfl (fun c37 => ?_) (fun c37 => ?_)
              · skip
                refine gf ?_
                refine gf ?_
                refine gf ?_
                refine gf ?_
                refine sp pK ?_
                refine sp pM ?_
                refine gf ?_
                refine gf ?_
                refine gf ?_
                refine gf ?_
                refine gf ?_
                refine sp pK ?_
                refine sp pM ?_
                refine gf ?_
                refine gf ?_
                refine gf ?_
                refine sp pK ?_
                refine sp pM ?_
                refine gf ?_
                refine gf ?_
                refine gf ?_
                refine sp pK ?_
                refine oNil ?_
                refine aCondT rfl ?_
                refine aSeq ?_
                refine aReg ?_
                refine sp pMa ?_
                refine oNil ?_
                refine aRet ?_
                refine ⟨_, [], _, rfl, .nil, ?_, rfl⟩
                show AV.int 1 = AV.int _
                have hs := links_step (o := l.o) (last := last) ha
                simp_all [lsaB]
                all_goals (intros; omega)
              · skip
                refine gp (pFb fd_138_0) ?_
                refine gr (rB1 ty_3) ?_
                refine gp pM ?_
                refine gp pB ?_
                refine sp pK ?_
                refine sp pM ?_
                refine oSplitDec 43 rfl (fun c43 => ?_) (fun c43 => ?_)
                · skip
                  refine gf ?_
                  refine gf ?_
                  refine gf ?_
                  refine gf ?_
                  refine gf ?_
                  refine sp pK ?_
                  refine sp pM ?_
                  refine gf ?_
                  refine gf ?_
                  refine gf ?_
                  refine sp pK ?_
                  refine sp pM ?_
                  refine gf ?_
                  refine gf ?_
                  refine gf ?_
                  refine sp pK ?_
                  refine oNil ?_
                  refine aCondT rfl ?_
                  refine aSeq ?_
                  refine aReg ?_
                  refine sp pMa ?_
                  refine oNil ?_
                  refine aRet ?_
                  refine ⟨_, [], _, rfl, .nil, ?_, rfl⟩
                  show AV.int 1 = AV.int _
                  have hs := links_step (o := l.o) (last := last) ha
                  simp_all [lsaB]
                  all_goals (intros; omega)
                · skip
                  refine gp (pFb fd_138_0) ?_
                  refine gr (rB1 ty_3) ?_
                  refine gp (by first | exact pFb fd_141_0 | exact pFs fd_141_0) ?_
                  refine gr (by first | exact rS1 ty_3 | exact rB1 ty_3 | exact rAr ty_3 | exact rArL ty_3 | exact rArR2 ty_3) ?_
                  refine gp pB ?_
                  refine sp pK ?_
                  refine sp pM ?_
                  refine oSplitEq 50 rfl (fun c50 => ?_) (fun c50 => ?_)
                  · skip
                    refine gf ?_
                    refine gf ?_
                    refine gf ?_
                    refine sp pK ?_
                    refine sp pM ?_
                    refine gf ?_
                    refine gf ?_
                    refine gf ?_
                    refine sp pK ?_
                    refine oNil ?_
                    refine aCondT rfl ?_
                    refine aSeq ?_
                    refine aReg ?_
                    refine sp pMa ?_
                    refine oNil ?_
                    refine aRet ?_
                    refine ⟨_, [], _, rfl, .nil, ?_, rfl⟩
                    show AV.int 1 = AV.int _
                    have hs := links_step (o := l.o) (last := last) ha
                    simp_all [lsaB]
                    all_goals (intros; omega)
                  · skip
                    refine gp (pFb fd_138_1) ?_
                    refine gr (rB1 ty_3) ?_
                    refine gp pB ?_
                    refine sp pK ?_
                    refine sp pM ?_
                    refine oSplitDec 55 rfl (fun c55 => ?_) (fun c55 => ?_)
                    · skip
                      refine gf ?_
                      refine gf ?_
                      refine gf ?_
                      refine sp pK ?_
                      refine oNil ?_
                      refine aCondT rfl ?_
                      refine aSeq ?_
                      refine aReg ?_
                      refine sp pMa ?_
                      refine oNil ?_
                      refine aRet ?_
                      refine ⟨_, [], _, rfl, .nil, ?_, rfl⟩
                      show AV.int 1 = AV.int _
                      have hs := links_step (o := l.o) (last := last) ha
                      simp_all [lsaB]
                      all_goals (intros; omega)
                    · skip
                      refine gp (pFb fd_138_1) ?_
                      refine gr (rB1 ty_3) ?_
                      refine gp pB ?_
                      refine sp pK ?_
                      refine oNil ?_
                      refine aCondDec rfl (fun c59 => ?_) (fun c59 => ?_)
                      · skip
                        refine aSeq ?_
                        refine aReg ?_
                        refine sp pMa ?_
                        refine oNil ?_
                        refine aRet ?_
                        refine ⟨_, [], _, rfl, .nil, ?_, rfl⟩
                        show AV.int 1 = AV.int _
                        have hs := links_step (o := l.o) (last := last) ha
                        simp_all [lsaB]
                        all_goals (intros; omega)
                      · skip
                        refine aSkip ?_
                        refine aReg ?_
                        refine sp (pFb fd_138_0) ?_
                        refine sr (rB1 ty_3) ?_
                        refine sp pMa ?_
                        refine oNil ?_
                        refine aReg ?_
                        refine sp pAd ?_
                        refine sp pM ?_
                        refine oNil ?_
                        have hs := links_step (o := l.o) (last := last) ha
                        refine ⟨(i + 1, a.t), ⟨by omega, ?_⟩, by show l.ls.length - (i + 1) < l.ls.length - i; omega, weak_sub ⟨rfl, rfl, rfl, rfl, gInt rfl (by simp), trivial⟩ (by repeat constructor)⟩
                        rw [hv, hs]
                        simp_all
                        all_goals (intros; omega)
            · skip
              refine aExit rfl ?_
              refine aSeq ?_
              refine aReg ?_
              refine sp pMa ?_
              refine oNil ?_
              refine aRet ?_
              refine ⟨_, [], _, rfl, .nil, ?_, rfl⟩
              show AV.int 0 = AV.int _
              rw [List.drop_of_length_le (by omega)] at hv
              simp_all [lsaB, linksB]
              all_goals (intros; omega)
/-- The place of the first that is meant. -/
def idxI {α : Type} (p : α → Bool) : List α → Nat → Option Nat
  | [], _ => none
  | a :: l, i => if p a then some i else idxI p l (i + 1)
def idxV (o : Option Nat) : Int := match o with | some i => (i : Int) | none => -1
theorem idx_step {α : Type} {p : α → Bool} {l : List α} {i : Nat} {a : α} (h : l[i]? = some a) : idxI p (l.drop i) i = if p a then some i else idxI p (l.drop (i + 1)) (i + 1) := by
  rw [drop_step h]
  rfl
theorem idx_some {α : Type} {p : α → Bool} : ∀ {l : List α} {s i : Nat}, idxI p l s = some i → s ≤ i ∧ ∃ a, l[i - s]? = some a ∧ l.find? p = some a
  | [], s, i, h => by simp [idxI] at h
  | a :: l, s, i, h => by
    simp only [idxI] at h
    by_cases hp : p a = true
    · rw [if_pos hp] at h
      simp only [Option.some.injEq] at h
      subst h
      exact ⟨Nat.le_refl _, a, by simp, by simp [hp]⟩
    · rw [if_neg hp] at h
      obtain ⟨h1, b, h2, h3⟩ := idx_some h
      refine ⟨by omega, b, ?_, by simp [hp, h3]⟩
      rw [show i - s = (i - (s + 1)) + 1 by omega]
      simpa using h2
theorem idx_none {α : Type} {p : α → Bool} : ∀ {l : List α} {s : Nat}, idxI p l s = none → l.find? p = none
  | [], s, h => rfl
  | a :: l, s, h => by
    simp only [idxI] at h
    by_cases hp : p a = true
    · rw [if_pos hp] at h; cases h
    · rw [if_neg hp] at h
      simp [hp, idx_none h]
/- api.Link] -/
set_option maxRecDepth 100000 in
set_option maxHeartbeats 400000 in
theorem index_Link {f : FuncId} {caps : List AV} {p : Link → Bool} (hf : ∀ x : Link, Triple Try.prog f ([AV.agg (linkC x)] ++ caps) [] (fun r h' => r = .v (.bool (p x)) ∧ h' = [])) (l : List Link) (hl : l.length < 4611686018427387904) : Triple Try.prog 237 [AV.sl 2 (l.map linkC), .fn (.func f) caps] [] (fun r h' => r = .int (idxV (idxI p l 0)) ∧ h' = []) := by
  refine triple_of Try.func237 rfl (by kernel_rfl) rfl (by simp) ?_
  refine aSeq ?_
  refine aReg ?_
  refine sp pMa ?_
  refine oNil ?_
  refine aSeq ?_
  refine aSeq ?_
  refine aReg ?_
  refine sp pM ?_
  refine sp (by first | exact pLm sl_139 | exact pLs sl_139) ?_
  refine sp pM ?_
  refine oNil ?_
  refine aBlock ?_
  refine aLoopI (α := Nat) (fun i => i ≤ l.length ∧ idxI p l 0 = idxI p (l.drop i) i) (fun i => ([(0, .sl 2 (l.map linkC)), (1, .fn (.func f) caps), (7, .int l.length), (8, .int i)], [])) (fun i => l.length - i) 0 ?_ ?_ ?_
  · skip
    exact ⟨by omega, rfl⟩
  · skip
    exact weak_sub ⟨rfl, rfl, gInt rfl (by simp), rfl, trivial⟩ .nil
  · rintro i ⟨hi, hv⟩
    skip
    refine aSeq ?_
    refine aReg ?_
    refine sp pB ?_
    refine oNil ?_
    refine aSeq ?_
    refine aCondDec rfl (fun c9 => ?_) (fun c9 => ?_)
    · skip
      refine aSkip ?_
      refine aSeq ?_
      refine aBlock ?_
      refine aSeq ?_
      refine aReg ?_
      refine sp pM ?_
      refine sp pMa ?_
      refine oNil ?_
      refine aSeq ?_
      refine aReg ?_
      refine sp pM ?_
      refine sp pM ?_
      refine sp pM ?_
      obtain ⟨a, ha⟩ : ∃ a, l[i]? = some a := ⟨_, List.getElem?_eq_getElem (by omega)⟩
      refine sp (pIdxS rfl rfl rfl es_139 (by omega) (map_get (f := linkC) ha)) ?_
      refine sr (by first | exact rSW ty_138 rfl | exact rSA ty_138 | exact rBWa ty_138 | exact rBW ty_138 | exact rBA ty_138 | exact rArA ty_138 (fun _ => rfl)) ?_
      refine sq ?_
      refine qCallV rfl rfl (by decide) rfl rfl (lents_refl _) (hf a) ?_
      refine oNil ?_
      refine aCond rfl (fun c16 => ?_) (fun c16 => ?_)
      · skip
        refine aSeq ?_
        refine aReg ?_
        refine sp pM ?_
        refine sp pMa ?_
        refine oNil ?_
        refine aRet ?_
        refine ⟨_, [], _, rfl, .nil, ?_, rfl⟩
        show AV.int _ = AV.int _
        rw [hv, idx_step ha]
        simp_all [idxV]
      · skip
        refine aSkip ?_
        refine aReg ?_
        refine sp pAd ?_
        refine sp pM ?_
        refine oNil ?_
        refine ⟨i + 1, ⟨by omega, by rw [hv, idx_step ha]; simp_all⟩, by show l.length - (i + 1) < l.length - i; omega, weak_sub ⟨rfl, rfl, rfl, gInt rfl (by simp), trivial⟩ .nil⟩
    · skip
      refine aExit rfl ?_
      refine aSeq ?_
      refine aReg ?_
      refine sp pMa ?_
      refine oNil ?_
      refine aRet ?_
      refine ⟨_, [], _, rfl, .nil, ?_, rfl⟩
      show AV.int _ = AV.int _
      rw [hv, List.drop_of_length_le (by omega)]
      rfl
/- lsa.Cost$1 -/
set_option maxRecDepth 100000 in
set_option maxHeartbeats 400000 in
theorem lsa_Cost1 (x : Link) (n : Int) : Triple Try.prog 238 [AV.agg (linkC x), .sp [.int n]] [] (fun r h' => r = .v (.bool (x.t == n)) ∧ h' = []) := by
  refine triple_of Try.func238 rfl (by kernel_rfl) rfl (by simp) ?_
  refine aSeq ?_
  refine aReg ?_
  refine sq ?_
  refine qBox rfl rfl (by decide) rfl rfl (fun b2 => ?_)
  refine sp pMa ?_
  refine oNil ?_
  refine aSeq ?_
  refine aReg ?_
  refine sp (pFb fd_138_0) ?_
  refine sr (rB1 ty_3) ?_
  refine sr (rS1 ty_3) ?_
  refine sp pB ?_
  refine sp pMa ?_
  refine oNil ?_
  refine aRet ?_
  exact ⟨_, [], _, rfl, .nil, rfl, rfl⟩
def costL (ls : List Link) (n : Int) : Int := match ls.find? (fun x => x.t == n) with | some x => x.c | none => 0
/- lsa.Cost -/
set_option maxRecDepth 100000 in
set_option maxHeartbeats 400000 in
theorem lsa_Cost (l : Lsa) (n : Int) (hl : l.ls.length < 4611686018427387904) : Triple Try.prog 160 [AV.agg (lsaC l), AV.int n] [] (fun r h' => r = .int (costL l.ls n) ∧ h' = []) := by
  refine triple_of Try.func160 rfl (by kernel_rfl) rfl (by simp) ?_
  refine aSeq ?_
  refine aReg ?_
  refine sq ?_
  refine qBox rfl rfl (by decide) rfl rfl (fun b2 => ?_)
  refine sq ?_
  refine qBox rfl rfl (by decide) rfl rfl (fun b3 => ?_)
  refine sp pMa ?_
  refine oNil ?_
  refine aSeq ?_
  refine aReg ?_
  refine sp (pFb fd_141_2) ?_
  refine sr (rB1 ty_139) ?_
  refine sp (pFn rfl rfl) ?_
  refine sq ?_
  refine qCallV rfl rfl (by decide) rfl rfl (.cons (.same _) (.cons (lent_fn1 (.sp List.mem_cons_self)) .nil)) (index_Link (p := fun x => x.t == n) (fun x => lsa_Cost1 x n) l.ls hl) ?_
  refine sp pMa ?_
  refine oNil ?_
  refine aSeq ?_
  refine aSeq ?_
  refine aReg ?_
  refine sp pM ?_
  refine sp pB ?_
  refine oNil ?_
  refine aCondDec rfl (fun c11 => ?_) (fun c11 => ?_)
  · skip
    refine aSeq ?_
    refine aReg ?_
    refine sp pMa ?_
    refine oNil ?_
    refine aRet ?_
    refine ⟨_, [], _, rfl, .nil, ?_, rfl⟩
    show AV.int 0 = AV.int _
    cases hx : idxI (fun x : Link => x.t == n) l.ls 0 with
    | none => rw [costL, idx_none hx]
    | some i => rw [hx] at c11; exact absurd c11 (by simp [idxV])
  · skip
    refine aSkip ?_
    refine aSeq ?_
    refine aReg ?_
    refine sp (pFb fd_141_2) ?_
    refine sr (rB1 ty_139) ?_
    refine sp pM ?_
    obtain ⟨i, hi⟩ : ∃ i, idxI (fun x : Link => x.t == n) l.ls 0 = some i := by
      cases hx : idxI (fun x : Link => x.t == n) l.ls 0 with
      | none => rw [hx] at c11; exact absurd (show ((-1 : Int) < 0) by decide) c11
      | some i => exact ⟨i, rfl⟩
    obtain ⟨_, a, ha, hf⟩ := idx_some hi
    refine sp (pIdxS rfl rfl rfl es_139 (by rw [hi]; exact Int.natCast_nonneg _) (by rw [hi]; exact map_get (f := linkC) ha)) ?_
    refine sp (by first | exact pFb fd_138_1 | exact pFs fd_138_1) ?_
    refine sr (by first | exact rS1 ty_3 | exact rB1 ty_3 | exact rAr ty_3 | exact rArL ty_3 | exact rArR2 ty_3) ?_
    refine sp pMa ?_
    refine oNil ?_
    refine aRet ?_
    refine ⟨_, [], _, rfl, .nil, ?_, rfl⟩
    show AV.int _ = AV.int _
    rw [costL, hf]
def lsdbB : Int → List Lsa → Bool
  | _, [] => true
  | last, x :: l => (lsaB x && decide (last < x.o)) && lsdbB x.o l
theorem lsdb_step {last : Int} {l : List Lsa} {i : Nat} {x : Lsa} (h : l[i]? = some x) : lsdbB last (l.drop i) = ((lsaB x && decide (last < x.o)) && lsdbB x.o (l.drop (i + 1))) := by
  rw [drop_step h]
  rfl
theorem lsdb_len : ∀ {l : List Lsa} {last : Int}, 0 ≤ last → lsdbB last l = true → last + l.length ≤ 64 ∨ l = []
  | [], last, _, _ => .inr rfl
  | x :: l, last, h0, h => by
    simp only [lsdbB, Bool.and_eq_true, decide_eq_true_eq] at h
    obtain ⟨⟨h1, h2⟩, h3⟩ := h
    have h4 : x.o ≤ 64 := by simp only [lsaB, nodeB, Bool.and_eq_true, decide_eq_true_eq] at h1; omega
    rcases lsdb_len (by omega) h3 with h5 | h5
    · left; simp only [List.length_cons]; omega
    · subst h5; left; simp only [List.length_cons, List.length_nil]; omega
theorem lsdb_len64 {l : List Lsa} (h : lsdbB 0 l = true) : l.length ≤ 64 := by
  rcases lsdb_len (Int.le_refl 0) h with h | h
  · omega
  · subst h; simp
theorem lsdb_mem : ∀ {l : List Lsa} {last : Int}, lsdbB last l = true → ∀ x ∈ l, lsaB x = true
  | [], _, _, x, hx => by simp at hx
  | y :: l, last, h, x, hx => by
    simp only [lsdbB, Bool.and_eq_true, decide_eq_true_eq] at h
    rcases List.mem_cons.1 hx with rfl | hx
    · exact h.1.1
    · exact lsdb_mem h.2 x hx
theorem lsa_links {l : Lsa} (h : lsaB l = true) : l.ls.length ≤ 16 := by simp only [lsaB, Bool.and_eq_true, decide_eq_true_eq] at h; omega
/- lsdb.Check -/
set_option maxRecDepth 100000 in
set_option maxHeartbeats 400000 in
theorem lsdb_Check (l : List Lsa) (hl : l.length < 9223372036854775807) : Triple Try.prog 137 [AV.sl 3 (l.map lsaC)] [] (fun r h' => r = .int (if lsdbB 0 l then 0 else 1) ∧ h' = []) := by
  refine triple_of Try.func137 rfl (by kernel_rfl) rfl (by simp) ?_
  refine aSeq ?_
  refine aReg ?_
  refine sp pMa ?_
  refine oNil ?_
  refine aSeq ?_
  refine aReg ?_
  refine sp pMa ?_
  refine oNil ?_
  refine aSeq ?_
  refine aSeq ?_
  refine aReg ?_
  refine sp pM ?_
  refine sp (by first | exact pLm sl_55 | exact pLs sl_55) ?_
  refine sp pM ?_
  refine oNil ?_
  refine aBlock ?_
  refine aLoopI (α := Nat × Int) (fun (i, last) => i ≤ l.length ∧ lsdbB 0 l = lsdbB last (l.drop i)) (fun (i, last) => ([(3, .int last), (6, .sl 3 (l.map lsaC)), (7, .int l.length), (8, .int i)], [])) (fun (i, last) => l.length - i) (0, 0) ?_ ?_ ?_
  · skip
    exact ⟨by omega, rfl⟩
  · skip
    exact weak_sub ⟨rfl, rfl, gInt rfl (by simp), rfl, trivial⟩ .nil
  · rintro ⟨i, last⟩ ⟨hi, hv⟩
    skip
    refine aSeq ?_
    refine aReg ?_
    refine sp pB ?_
    refine oNil ?_
    refine aSeq ?_
    refine aCondDec rfl (fun c9 => ?_) (fun c9 => ?_)
    · skip
      refine aSkip ?_
      refine aSeq ?_
      refine aBlock ?_
      refine aSeq ?_
      refine aReg ?_
      obtain ⟨a, ha⟩ : ∃ a, l[i]? = some a := ⟨_, List.getElem?_eq_getElem (by omega)⟩
      refine sp (pIdxS rfl rfl rfl es_55 (by omega) (map_get (f := lsaC) ha)) ?_
      refine sr (by first | exact rSW ty_141 rfl | exact rSA ty_141 | exact rBWa ty_141 | exact rBW ty_141 | exact rBA ty_141 | exact rArA ty_141 (fun _ => rfl)) ?_
      refine sq ?_
      refine qAlloc rfl rfl (by decide) ze_141 rfl (fun b5 => ?_)
      refine sa ?_
      refine oStW rfl rfl rfl rfl (by repeat constructor) ty_141 ?_
      refine oNil ?_
      refine aSeq ?_
      refine aSeq ?_
      refine aReg ?_
      refine sr (by first | exact rBWa ty_141 | exact rBW ty_141 | exact rBA ty_141) ?_
      refine sq ?_
      refine qCallV rfl rfl (by decide) rfl rfl (lents_refl _) (lsa_Check a) ?_
      refine sp pB ?_
      refine sp pM ?_
      refine oSplitNe 15 rfl (fun c15 => ?_) (fun c15 => ?_)
      · skip
        refine gf ?_
        refine gf ?_
        refine gf ?_
        refine gf ?_
        refine sp pK ?_
        refine oNil ?_
        refine aCondT rfl ?_
        refine aSeq ?_
        refine aReg ?_
        refine sp pMa ?_
        refine oNil ?_
        refine aRet ?_
        refine ⟨_, [], _, rfl, .nil, ?_, rfl⟩
        show AV.int 1 = AV.int _
        have hs := lsdb_step (last := last) ha
        simp_all
        all_goals (intros; omega)
      · skip
        refine gp (pFb fd_141_0) ?_
        refine gr (rB1 ty_3) ?_
        refine gp pM ?_
        refine gp pB ?_
        refine sp pK ?_
        refine oNil ?_
        refine aCondDec rfl (fun c20 => ?_) (fun c20 => ?_)
        · skip
          refine aSeq ?_
          refine aReg ?_
          refine sp pMa ?_
          refine oNil ?_
          refine aRet ?_
          refine ⟨_, [], _, rfl, .nil, ?_, rfl⟩
          show AV.int 1 = AV.int _
          have hs := lsdb_step (last := last) ha
          simp_all
          all_goals (intros; omega)
        · skip
          refine aSkip ?_
          refine aReg ?_
          refine sp (pFb fd_141_0) ?_
          refine sr (rB1 ty_3) ?_
          refine sp pMa ?_
          refine oNil ?_
          refine aReg ?_
          refine sp pAd ?_
          refine sp pM ?_
          refine oNil ?_
          have hs := lsdb_step (last := last) ha
          refine ⟨(i + 1, a.o), ⟨by omega, ?_⟩, by show l.length - (i + 1) < l.length - i; omega, weak_sub ⟨rfl, rfl, rfl, gInt rfl (by simp), trivial⟩ .nil⟩
          rw [hv, hs]
          simp_all
          all_goals (intros; omega)
    · skip
      refine aExit rfl ?_
      refine aSeq ?_
      refine aReg ?_
      refine sp pMa ?_
      refine oNil ?_
      refine aRet ?_
      refine ⟨_, [], _, rfl, .nil, ?_, rfl⟩
      show AV.int 0 = AV.int _
      rw [hv, List.drop_of_length_le (by omega)]
      rfl
def mapDb (db : List Lsa) : List (Int × AV) := db.foldl (fun m l => kvPut m l.o (.agg (lsaC l))) []
theorem mapDb_step {db : List Lsa} {i : Nat} {a : Lsa} (h : db[i]? = some a) : mapDb (db.take (i + 1)) = kvPut (mapDb (db.take i)) a.o (.agg (lsaC a)) := by
  unfold mapDb
  rw [List.take_add_one, h]
  simp [List.foldl_append]
/-- The last one of a node; one of nought, if there is none. -/
def getL (db : List Lsa) (n : Int) : Lsa := (db.reverse.find? (fun l => l.o == n)).getD ⟨0, 0, []⟩
theorem mapDb_get (n : Int) : ∀ (db : List Lsa), kvGet (mapDb db) n = (db.reverse.find? (fun l => l.o == n)).map (fun l => .agg (lsaC l)) := by
  have key : ∀ (db : List Lsa) (m : List (Int × AV)), kvGet (db.foldl (fun m l => kvPut m l.o (.agg (lsaC l))) m) n = ((db.reverse.find? (fun l => l.o == n)).map (fun l => AV.agg (lsaC l))).or (kvGet m n) := by
    intro db
    induction db with
    | nil => intro m; rfl
    | cons a db ih =>
      intro m
      rw [List.foldl_cons, ih, kvGet_put, List.reverse_cons, List.find?_append]
      cases db.reverse.find? (fun l => l.o == n) with
      | some x => rfl
      | none =>
        by_cases h : n = a.o
        · simp [h]
        · have h2 : (a.o == n) = false := by simpa using fun e => h e.symm
          simp [h, h2]
  intro db
  rw [mapDb, key]
  simp [kvGet]
theorem cast_getL (db : List Lsa) (n : Int) : Cast ((kvGet (mapDb db) n).getD (.v (.agg #[.int .i64 0, .int .i64 0, .slice none 0 0]))) (.agg (lsaC (getL db n))) := by
  rw [mapDb_get, getL]
  cases db.reverse.find? (fun l => l.o == n) with
  | some x => exact Cast.refl
  | none =>
    refine cast_agg rfl rfl (fun i y c hy hc => ?_)
    match i with
    | 0 => simp at hy; subst hy; simp [lsaC] at hc; subst hc; exact Cast.refl
    | 1 => simp at hy; subst hy; simp [lsaC] at hc; subst hc; exact Cast.refl
    | 2 => simp at hy; subst hy; simp [lsaC] at hc; subst hc; exact cast_nil
    | i + 3 => simp at hy
theorem getL_len {db : List Lsa} (h : lsdbB 0 db = true) (n : Int) : (getL db n).ls.length ≤ 16 := by
  unfold getL
  cases hf : db.reverse.find? (fun l => l.o == n) with
  | none => simp
  | some x => exact lsa_links (lsdb_mem h x (by simpa using List.mem_of_find?_eq_some hf))
def arcOf (db : List Lsa) (l : Lsa) (x : Link) : Option Arc := if 0 < costL (getL db x.t).ls l.o then some ⟨l.o, x.t, x.c⟩ else none
def arcsOf (db : List Lsa) (l : Lsa) : List Arc := l.ls.filterMap (arcOf db l)
def arcsAll (db : List Lsa) : List Arc := db.flatMap (arcsOf db)
def arcsDb (db : List Lsa) : List Arc := if lsdbB 0 db = true then arcsAll db else []
/- graph.Arcs -/
set_option maxRecDepth 100000 in
set_option maxHeartbeats 2000000 in
theorem graph_Arcs (db : List Lsa) (hl : db.length < 9223372036854775807) : Triple Try.prog 114 [AV.sl 3 (db.map lsaC)] [] (fun r h' => ∃ g c, r = .v (slV g (arcsDb db).length c) ∧ h' = [.sl g c 36 3 ((arcsDb db).map arcC)]) := by
  refine triple_of Try.func114 rfl (by kernel_rfl) rfl (by simp) ?_
  refine aSeq ?_
  refine aReg ?_
  refine sp pMa ?_
  refine oNil ?_
  refine aSeq ?_
  refine aSeq ?_
  refine aReg ?_
  refine sp pM ?_
  refine sq ?_
  refine qCallV rfl rfl (by decide) rfl rfl (lents_refl _) (lsdb_Check db hl) ?_
  refine sp pB ?_
  refine oNil ?_
  refine aCondNe rfl (fun c13 => ?_) (fun c13 => ?_)
  · skip
    refine aSeq ?_
    refine aReg ?_
    refine sp pMa ?_
    refine oNil ?_
    have hB : ¬ lsdbB 0 db = true := fun hb => by rw [hb] at c13; exact absurd rfl c13
    refine aWeak (weak_nil 36 3) ?_
    refine aRet ?_
    refine ⟨_, [_], _, rfl, .cons .hd .nil, none, 0, ?_, ?_⟩
    · rw [arcsDb, if_neg hB]; rfl
    · rw [arcsDb, if_neg hB]; rfl
  · skip
    refine aSkip ?_
    refine aSeq ?_
    have hB : lsdbB 0 db = true := by
      cases hb : lsdbB 0 db with
      | true => rfl
      | false => rw [hb] at c13; exact absurd c13 (by decide)
    have h64 := lsdb_len64 hB
    refine aReg ?_
    refine sq ?_
    refine qMakeMap rfl rfl (by decide) (fun b14 => ?_)
    refine sp pMa ?_
    refine oNil ?_
    refine aSeq ?_
    refine aSeq ?_
    refine aReg ?_
    refine sp pM ?_
    refine sp (by first | exact pLm sl_55 | exact pLs sl_55) ?_
    refine sp pM ?_
    refine oNil ?_
    refine aBlock ?_
    refine aLoopI (α := Nat) (fun i => i ≤ db.length) (fun i => ([(0, .sl 3 (db.map lsaC)), (3, .v (.map (some b14))), (15, .sl 3 (db.map lsaC)), (16, .int db.length), (17, .int i)], [.map b14 (mapDb (db.take i))])) (fun i => db.length - i) 0 ?_ ?_ ?_
    · skip
      omega
    · skip
      exact weak_sub ⟨rfl, rfl, rfl, gInt rfl (by simp), rfl, trivial⟩ (by repeat constructor)
    · rintro i hi
      skip
      refine aSeq ?_
      refine aReg ?_
      refine sp pB ?_
      refine oNil ?_
      refine aSeq ?_
      refine aCondDec rfl (fun c18 => ?_) (fun c18 => ?_)
      · skip
        refine aSkip ?_
        refine aSeq ?_
        refine aBlock ?_
        refine aSeq ?_
        refine aReg ?_
        obtain ⟨a, ha⟩ : ∃ a, db[i]? = some a := ⟨_, List.getElem?_eq_getElem (by omega)⟩
        refine sp (pIdxS rfl rfl rfl es_55 (by omega) (map_get (f := lsaC) ha)) ?_
        refine sr (by first | exact rSW ty_141 rfl | exact rSA ty_141 | exact rBWa ty_141 | exact rBW ty_141 | exact rBA ty_141 | exact rArA ty_141 (fun _ => rfl)) ?_
        refine sq ?_
        refine qAlloc rfl rfl (by decide) ze_141 rfl (fun b5 => ?_)
        refine sa ?_
        refine oStW rfl rfl rfl rfl (by repeat constructor) ty_141 ?_
        refine oNil ?_
        refine aReg ?_
        refine sp pM ?_
        refine sp (pFb fd_141_0) ?_
        refine sr (rB1 ty_3) ?_
        refine sr (by first | exact rBWa ty_141 | exact rBW ty_141 | exact rBA ty_141) ?_
        refine sa ?_
        first | refine oMP rfl rfl rfl rfl mo_253 ?_ | refine oMapSet rfl rfl rfl rfl rfl (by repeat constructor) mo_253 ?_
        refine oNil ?_
        refine aReg ?_
        refine sp pAd ?_
        refine sp pM ?_
        refine oNil ?_
        refine ⟨i + 1, by omega, by show db.length - (i + 1) < db.length - i; omega, ?_⟩
        simp only [mapDb_step ha]
        exact weak_sub ⟨rfl, rfl, rfl, rfl, gInt rfl (by simp), trivial⟩ (by repeat constructor)
      · skip
        refine aExit rfl ?_
        refine aSeq ?_
        refine aReg ?_
        refine sp pMa ?_
        refine oNil ?_
        refine aSeq ?_
        refine aSeq ?_
        refine aReg ?_
        refine sp pM ?_
        refine sp (by first | exact pLm sl_55 | exact pLs sl_55 | exact pLv sl_55) ?_
        refine sp pM ?_
        refine oNil ?_
        refine aBlock ?_
        obtain rfl : i = db.length := by omega
        refine aWeak (weak_nil 36 3) ?_
        rw [List.take_length]
        refine aLoopI (α := Nat × Option Nat × Nat) (fun (i, g, c) => i ≤ db.length ∧ ((db.take i).flatMap (arcsOf db)).length ≤ i * 16) (fun (i, g, c) => ([(0, .sl 3 (db.map lsaC)), (3, .v (.map (some b14))), (26, .sl 3 (db.map lsaC)), (27, .int db.length), (28, .int i), (6, .v (slV g ((db.take i).flatMap (arcsOf db)).length c))], [.sl g c 36 3 (((db.take i).flatMap (arcsOf db)).map arcC), .map b14 (mapDb db)])) (fun (i, g, c) => db.length - i) (0, none, 0) ?_ ?_ ?_
        · skip
          exact ⟨by omega, by simp⟩
        · skip
          exact weak_sub ⟨rfl, rfl, rfl, gInt rfl (by simp), rfl, rfl, trivial⟩ (by repeat constructor)
        · rintro ⟨i, g, c⟩ ⟨hi, hn⟩
          skip
          refine aSeq ?_
          refine aReg ?_
          refine sp pB ?_
          refine oNil ?_
          refine aSeq ?_
          refine aCondDec rfl (fun c29 => ?_) (fun c29 => ?_)
          · skip
            refine aSkip ?_
            refine aSeq ?_
            refine aBlock ?_
            refine aSeq ?_
            refine aReg ?_
            obtain ⟨l, hl2⟩ : ∃ l, db[i]? = some l := ⟨_, List.getElem?_eq_getElem (by omega)⟩
            have hl16 := lsa_links (lsdb_mem hB l (List.mem_of_getElem? hl2))
            refine sp (pIdxS rfl rfl rfl es_55 (by omega) (map_get (f := lsaC) hl2)) ?_
            refine sr (by first | exact rSW ty_141 rfl | exact rSA ty_141 | exact rBWa ty_141 | exact rBW ty_141 | exact rBA ty_141 | exact rArA ty_141 (fun _ => rfl)) ?_
            refine sq ?_
            refine qAlloc rfl rfl (by decide) ze_141 rfl (fun b8 => ?_)
            refine sa ?_
            refine oStW rfl rfl rfl rfl (by repeat constructor) ty_141 ?_
            refine oNil ?_
            refine aSeq ?_
            refine aReg ?_
            refine sp (pFb fd_141_2) ?_
            refine sr (rB1 ty_139) ?_
            refine sp (by first | exact pLm sl_139 | exact pLs sl_139 | exact pLv sl_139) ?_
            refine sp pM ?_
            refine oNil ?_
            refine aBlock ?_
            refine aLoopI (α := Nat × Option Nat × Nat) (fun (k, g', c') => k ≤ l.ls.length ∧ ((l.ls.take k).filterMap (arcOf db l)).length ≤ k) (fun (k, g', c') => ([(0, .sl 3 (db.map lsaC)), (3, .v (.map (some b14))), (8, .v (.pointer (some ⟨b8, 0, none⟩))), (26, .sl 3 (db.map lsaC)), (27, .int db.length), (28, .int i), (33, .sl 2 (l.ls.map linkC)), (34, .int l.ls.length), (35, .int k), (6, .v (slV g' ((db.take i).flatMap (arcsOf db) ++ (l.ls.take k).filterMap (arcOf db l)).length c'))], [.sl g' c' 36 3 (((db.take i).flatMap (arcsOf db) ++ (l.ls.take k).filterMap (arcOf db l)).map arcC), .box b8 (lsaC l), .map b14 (mapDb db)])) (fun (k, g', c') => l.ls.length - k) (0, g, c) ?_ ?_ ?_
            · skip
              exact ⟨by omega, by simp⟩
            · skip
              simp only [List.take_zero, List.filterMap_nil, List.append_nil]
              exact weak_sub ⟨rfl, rfl, rfl, rfl, rfl, rfl, rfl, gInt rfl (by simp), rfl, rfl, trivial⟩ (by repeat constructor)
            · rintro ⟨k, g', c'⟩ ⟨hk, hnk⟩
              skip
              refine aSeq ?_
              refine aReg ?_
              refine sp pB ?_
              refine oNil ?_
              refine aSeq ?_
              refine aCondDec rfl (fun c36 => ?_) (fun c36 => ?_)
              · skip
                refine aSkip ?_
                refine aSeq ?_
                refine aBlock ?_
                refine aSeq ?_
                refine aReg ?_
                obtain ⟨x, hx⟩ : ∃ x, l.ls[k]? = some x := ⟨_, List.getElem?_eq_getElem (by omega)⟩
                refine sp (pIdxS rfl rfl rfl es_139 (by omega) (map_get (f := linkC) hx)) ?_
                refine sr (by first | exact rSW ty_138 rfl | exact rSA ty_138 | exact rBWa ty_138 | exact rBW ty_138 | exact rBA ty_138 | exact rArA ty_138 (fun _ => rfl)) ?_
                refine sq ?_
                refine qAlloc rfl rfl (by decide) ze_138 rfl (fun b10 => ?_)
                refine sa ?_
                refine oStW rfl rfl rfl rfl (by repeat constructor) ty_138 ?_
                refine oNil ?_
                refine aSeq ?_
                refine aReg ?_
                refine sp pM ?_
                refine sp (pFb fd_138_0) ?_
                refine sr (rB1 ty_3) ?_
                refine sr (rCast (rLook rfl rfl rfl (by repeat constructor) mo_253 ze_141 rfl) (cast_getL db x.t)) ?_
                refine sp (by first | exact pFb fd_141_0 | exact pFs fd_141_0) ?_
                refine sr (by first | exact rS1 ty_3 | exact rB1 ty_3 | exact rAr ty_3 | exact rArL ty_3 | exact rArR2 ty_3) ?_
                refine sq ?_
                refine qCallV rfl rfl (by decide) rfl rfl (lents_refl _) (lsa_Cost (getL db x.t) l.o (by have := getL_len hB x.t; omega)) ?_
                refine sp pB ?_
                refine oNil ?_
                refine aCondDec rfl (fun c46 => ?_) (fun c46 => ?_)
                · skip
                  refine aReg ?_
                  refine sp pM ?_
                  refine sp (by first | exact pFb fd_141_0 | exact pFs fd_141_0) ?_
                  refine sr (by first | exact rS1 ty_3 | exact rB1 ty_3 | exact rAr ty_3 | exact rArL ty_3 | exact rArR2 ty_3) ?_
                  refine sp (pFb fd_138_0) ?_
                  refine sr (rB1 ty_3) ?_
                  refine sp (pFb fd_138_1) ?_
                  refine sr (rB1 ty_3) ?_
                  refine sp (pBuild rfl st_36 ze_36 rfl rfl rfl rfl) ?_
                  refine sq ?_
                  refine qLit (l := [_]) rfl rfl (by decide) us_22 ty_36 ze_36 rfl (by decide) (by decide) rfl rfl rfl (fun b55 => ?_)
                  refine sa ?_
                  refine oApp rfl rfl (by decide) rfl (by repeat constructor) (by simp) (srcOwn rfl (by repeat constructor) (by first | rfl | simp)) el_22 sl_22 (by intro z hz; rcases List.mem_cons.1 hz with rfl | hz; rfl; cases hz) (by rw [List.length_map, List.length_append]; show _ + 1 ≤ _; omega) (by rw [List.length_map, List.length_append]; show (_ + 1) * 24 ≤ _; omega) (fun g56 k56 => ?_)
                  refine sp pMa ?_
                  refine oNil ?_
                  refine aReg ?_
                  refine sp pAd ?_
                  refine sp pM ?_
                  refine oNil ?_
                  have hst : (l.ls.take (k + 1)).filterMap (arcOf db l) = (l.ls.take k).filterMap (arcOf db l) ++ (arcOf db l x).toList := by rw [take_step hx, List.filterMap_append]; cases hq : arcOf db l x <;> simp [hq]
                  first
                    | (have hq : arcOf db l x = some ⟨l.o, x.t, x.c⟩ := by simp only [arcOf]; rw [if_pos (by omega)]
                       rw [hq] at hst
                       refine ⟨(k + 1, g56, k56), ⟨by omega, ?_⟩, by show l.ls.length - (k + 1) < l.ls.length - k; omega, ?_⟩
                       · rw [hst, List.length_append]; simp; omega
                       · simp only [hst, Option.toList_some, ← List.append_assoc]
                         exact weak_sub ⟨rfl, rfl, rfl, rfl, rfl, rfl, rfl, rfl, gInt rfl (by simp), gLen rfl (by simp; omega), trivial⟩ (by rw [List.map_append (l₂ := [_])]; repeat constructor))
                    | (have hq : arcOf db l x = none := by simp only [arcOf]; rw [if_neg (by omega)]
                       rw [hq] at hst
                       refine ⟨(k + 1, g', c'), ⟨by omega, ?_⟩, by show l.ls.length - (k + 1) < l.ls.length - k; omega, ?_⟩
                       · rw [hst, List.length_append]; simp; omega
                       · simp only [hst, Option.toList_none, List.append_nil]
                         exact weak_sub ⟨rfl, rfl, rfl, rfl, rfl, rfl, rfl, rfl, gInt rfl (by simp), rfl, trivial⟩ (by repeat constructor))
                · skip
                  refine aSkip ?_
                  refine aReg ?_
                  refine sp pAd ?_
                  refine sp pM ?_
                  refine oNil ?_
                  have hst : (l.ls.take (k + 1)).filterMap (arcOf db l) = (l.ls.take k).filterMap (arcOf db l) ++ (arcOf db l x).toList := by rw [take_step hx, List.filterMap_append]; cases hq : arcOf db l x <;> simp [hq]
                  first
                    | (have hq : arcOf db l x = some ⟨l.o, x.t, x.c⟩ := by simp only [arcOf]; rw [if_pos (by omega)]
                       rw [hq] at hst
                       refine ⟨(k + 1, g56, k56), ⟨by omega, ?_⟩, by show l.ls.length - (k + 1) < l.ls.length - k; omega, ?_⟩
                       · rw [hst, List.length_append]; simp; omega
                       · simp only [hst, Option.toList_some, ← List.append_assoc]
                         exact weak_sub ⟨rfl, rfl, rfl, rfl, rfl, rfl, rfl, rfl, gInt rfl (by simp), gLen rfl (by simp; omega), trivial⟩ (by rw [List.map_append (l₂ := [_])]; repeat constructor))
                    | (have hq : arcOf db l x = none := by simp only [arcOf]; rw [if_neg (by omega)]
                       rw [hq] at hst
                       refine ⟨(k + 1, g', c'), ⟨by omega, ?_⟩, by show l.ls.length - (k + 1) < l.ls.length - k; omega, ?_⟩
                       · rw [hst, List.length_append]; simp; omega
                       · simp only [hst, Option.toList_none, List.append_nil]
                         exact weak_sub ⟨rfl, rfl, rfl, rfl, rfl, rfl, rfl, rfl, gInt rfl (by simp), rfl, trivial⟩ (by repeat constructor))
              · skip
                refine aExit rfl ?_
                refine aReg ?_
                refine sp pAd ?_
                refine sp pM ?_
                refine oNil ?_
                obtain rfl : k = l.ls.length := by omega
                have hstep : (db.take (i + 1)).flatMap (arcsOf db) = (db.take i).flatMap (arcsOf db) ++ (l.ls.take l.ls.length).filterMap (arcOf db l) := by rw [take_step hl2, List.flatMap_append, List.take_length]; simp [arcsOf]
                refine ⟨(i + 1, g', c'), ⟨by omega, ?_⟩, by show db.length - (i + 1) < db.length - i; omega, ?_⟩
                · rw [hstep, List.length_append]; omega
                · simp only [hstep]
                  exact weak_sub ⟨rfl, rfl, rfl, rfl, gInt rfl (by simp), rfl, trivial⟩ (by repeat constructor)
          · skip
            refine aExit rfl ?_
            refine aSeq ?_
            refine aReg ?_
            refine sp pM ?_
            refine sp pMa ?_
            refine oNil ?_
            refine aRet ?_
            obtain rfl : i = db.length := by omega
            refine ⟨_, [_], _, rfl, .cons .hd .nil, g, c, ?_, ?_⟩
            · rw [arcsDb, if_pos hB, arcsAll, List.take_length]; rfl
            · rw [arcsDb, if_pos hB, arcsAll, List.take_length]
def lightB (db : List Lsa) : Bool := decide (db.length ≤ 70) && db.all (fun x => decide (x.ls.length ≤ 40))
theorem all_take {α : Type} {p : α → Bool} {l : List α} {i : Nat} {a : α} (h : l[i]? = some a) : (l.take (i + 1)).all p = ((l.take i).all p && p a) := by rw [take_step h]; simp
theorem all_not {α : Type} {p : α → Bool} {l : List α} {i : Nat} {a : α} (h : l[i]? = some a) (hp : p a = false) : l.all p = false := by
  cases hq : l.all p with
  | false => rfl
  | true => rw [List.all_eq_true] at hq; rw [hq a (List.mem_of_getElem? h)] at hp; cases hp
theorem light_mem {db : List Lsa} (h : lightB db = true) {x : Lsa} (hx : x ∈ db) : x.ls.length ≤ 40 := by simp only [lightB, Bool.and_eq_true, List.all_eq_true, decide_eq_true_eq] at h; exact h.2 x hx
def prevT (ls : List Link) (i : Nat) : Int := match prevA ls i with | none => 0 | some x => x.t
def prevO (db : List Lsa) (i : Nat) : Int := match prevA db i with | none => 0 | some x => x.o
theorem prevT_succ {l : List Link} {i : Nat} {a : Link} (h : l[i]? = some a) : prevT l (i + 1) = a.t := by rw [prevT, prevA_succ h]
theorem prevO_succ {l : List Lsa} {i : Nat} {a : Lsa} (h : l[i]? = some a) : prevO l (i + 1) = a.o := by rw [prevO, prevA_succ h]
theorem prevT_eq {l : List Link} {i : Nat} {a : Link} (hi : 0 < i) (h : l[i - 1]? = some a) : prevT l i = a.t := by simp [prevT, prevA, h, show i ≠ 0 by omega]
theorem prevO_eq {l : List Lsa} {i : Nat} {a : Lsa} (hi : 0 < i) (h : l[i - 1]? = some a) : prevO l i = a.o := by simp [prevO, prevA, h, show i ≠ 0 by omega]
theorem prevT_zero {l : List Link} {i : Nat} (hi : i = 0) : prevT l i = 0 := by subst hi; rfl
theorem prevO_zero {l : List Lsa} {i : Nat} (hi : i = 0) : prevO l i = 0 := by subst hi; rfl
def refGet (db : List Lsa) (n : Int) : Lsa := (db.find? (fun l => l.o == n)).getD ⟨0, 0, []⟩
def refArc (db : List Lsa) (l : Lsa) (x : Link) : Option Arc := if 0 < costL (refGet db x.t).ls l.o then some ⟨l.o, x.t, x.c⟩ else none
def refArcs (db : List Lsa) (l : Lsa) : List Arc := l.ls.filterMap (refArc db l)
def refAll (db : List Lsa) : List Arc := db.flatMap (refArcs db)
/- waymarklaw09.Light -/
set_option maxRecDepth 100000 in
set_option maxHeartbeats 400000 in
theorem law09_Light (l : Lsa) : Triple Try.prog 229 [AV.agg (lsaC l)] [] (fun r h' => r = .v (.bool (decide (l.ls.length ≤ 40))) ∧ h' = []) := by
  refine triple_of Try.func229 rfl (by kernel_rfl) rfl (by simp) ?_
  refine aSeq ?_
  refine aReg ?_
  refine sq ?_
  refine qBox rfl rfl (by decide) rfl rfl (fun b1 => ?_)
  refine sp pMa ?_
  refine oNil ?_
  refine aSeq ?_
  refine aReg ?_
  refine sp (pFb fd_141_2) ?_
  refine sr (rB1 ty_139) ?_
  refine sp (by first | exact pLm sl_139 | exact pLs sl_139 | exact pLv sl_139) ?_
  refine sp pB ?_
  refine sp pMa ?_
  refine oNil ?_
  refine aRet ?_
  refine ⟨_, [], _, rfl, .nil, ?_, rfl⟩
  simp [retOf]
  omega
/- waymarklaw19.Light -/
set_option maxRecDepth 100000 in
set_option maxHeartbeats 400000 in
theorem law19_Light (db : List Lsa) : Triple Try.prog 136 [AV.sl 3 (db.map lsaC)] [] (fun r h' => r = .v (.bool (lightB db)) ∧ h' = []) := by
  refine triple_of Try.func136 rfl (by kernel_rfl) rfl (by simp) ?_
  refine aSeq ?_
  refine aReg ?_
  refine sp pMa ?_
  refine oNil ?_
  refine aSeq ?_
  refine aSeq ?_
  refine aReg ?_
  refine sp pMa ?_
  refine oNil ?_
  refine aBlock ?_
  refine aLoopI (α := Nat) (fun i => i ≤ db.length ∧ i ≤ 71 ∧ (db.take i).all (fun x => decide (x.ls.length ≤ 40)) = true) (fun i => ([(0, AV.sl 3 (db.map lsaC)), (3, .int i)], [])) (fun i => db.length - i) 0 ?_ ?_ ?_
  · skip
    exact ⟨by omega, by omega, by simp⟩
  · skip
    exact weak_sub ⟨rfl, gInt rfl (by simp), trivial⟩ .nil
  · rintro i ⟨hi, hj, hv⟩
    skip
    refine aSeq ?_
    refine aSeq ?_
    refine aReg ?_
    refine sp pM ?_
    refine sp pM ?_
    refine sp (by first | exact pLm sl_55 | exact pLs sl_55 | exact pLv sl_55) ?_
    refine sp pB ?_
    refine sp pM ?_
    refine oSplitDec 8 rfl (fun c8 => ?_) (fun c8 => ?_)
    · skip
      refine gp pM ?_
      refine gp pB ?_
      refine sp pK ?_
      refine oNil ?_
      refine aCondDec rfl (fun c11 => ?_) (fun c11 => ?_)
      · skip
        refine aSkip ?_
        refine aSeq ?_
        refine aBlock ?_
        refine aSeq ?_
        refine aReg ?_
        refine sp pM ?_
        refine sp pM ?_
        obtain ⟨a, ha⟩ : ∃ a, db[i]? = some a := ⟨_, List.getElem?_eq_getElem (by omega)⟩
        refine sp (pIdxS rfl rfl rfl es_55 (by omega) (map_get (f := lsaC) ha)) ?_
        refine sr (by first | exact rSW ty_141 rfl | exact rSA ty_141 | exact rBWa ty_141 | exact rBW ty_141 | exact rBA ty_141 | exact rArA ty_141 (fun _ => rfl)) ?_
        refine sq ?_
        refine qCallV rfl rfl (by decide) rfl rfl (lents_refl _) (law09_Light _) ?_
        refine sp pNo ?_
        refine oNil ?_
        refine aCondNot rfl (fun c19 => ?_) (fun c19 => ?_)
        · skip
          refine aSeq ?_
          refine aReg ?_
          refine sp pMa ?_
          refine oNil ?_
          refine aRet ?_
          refine ⟨_, [], _, rfl, .nil, ?_, rfl⟩
          show AV.v (.bool false) = _
          have hn := all_not (p := fun x : Lsa => decide (x.ls.length ≤ 40)) ha (by simp_all)
          simp [lightB, hn]
        · skip
          refine aSkip ?_
          refine aReg ?_
          refine sp pM ?_
          refine sp pAd ?_
          refine sp pMa ?_
          refine oNil ?_
          refine ⟨i + 1, ⟨by omega, by omega, ?_⟩, by show db.length - (i + 1) < db.length - i; omega, weak_sub ⟨rfl, gInt rfl (by simp), trivial⟩ .nil⟩
          rw [all_take ha, hv]
          simp_all
      · skip
        refine aExit rfl ?_
        refine aSeq ?_
        refine aReg ?_
        refine sp pM ?_
        refine sp (by first | exact pLm sl_55 | exact pLs sl_55 | exact pLv sl_55) ?_
        refine sp pB ?_
        refine sp pMa ?_
        refine oNil ?_
        refine aRet ?_
        refine ⟨_, [], _, rfl, .nil, ?_, rfl⟩
        show AV.v (.bool _) = _
        by_cases hl : db.length ≤ 70
        · rw [show i = db.length by omega, List.take_length] at hv
          simp [lightB, hl, hv]
          omega
        · simp [lightB, hl]
          omega
    · skip
      refine gf ?_
      refine gf ?_
      refine sp pK ?_
      refine oNil ?_
      refine aCondF rfl ?_
      refine aExit rfl ?_
      refine aSeq ?_
      refine aReg ?_
      refine sp pM ?_
      refine sp (by first | exact pLm sl_55 | exact pLs sl_55 | exact pLv sl_55) ?_
      refine sp pB ?_
      refine sp pMa ?_
      refine oNil ?_
      refine aRet ?_
      refine ⟨_, [], _, rfl, .nil, ?_, rfl⟩
      show AV.v (.bool _) = _
      by_cases hl : db.length ≤ 70
      · rw [show i = db.length by omega, List.take_length] at hv
        simp [lightB, hl, hv]
        omega
      · simp [lightB, hl]
        omega
/- waymarkref09.May -/
def ref09_May_r5_T : Bool × List (List Nat × List Nat) := (true, [([], []), ([0], [0]), ([1], [1]), ([2], [2]), ([3], [3]), ([4, 3], [3, 4]), ([5, 3], [3, 5]), ([3, 6], [3, 6]), ([7, 3], [7]), ([8], [8]), ([9, 8], [8, 9]), ([8], [8]), ([11, 8], [8, 11]), ([10, 12, 8], [8, 10, 12]), ([8, 13], [8, 13]), ([14, 8], [14]), ([15], [15]), ([16, 15], [15, 16]), ([17, 15], [15, 17]), ([15, 18], [15, 18]), ([19, 15], [19]), ([20], [20]), ([21, 20], [20, 21]), ([22, 20], [20, 22]), ([20, 23], [20, 23]), ([24, 20], [24]), ([25], [25]), ([26, 25], [25, 26]), ([27, 25, 25], [25, 27]), ([28], [28]), ([29, 28], [28, 29]), ([28], [28]), ([31, 28], [28, 31]), ([30, 32, 28], [28, 30, 32]), ([33, 28], [28, 33]), ([34, 28], [28, 34]), ([28], [28]), ([36, 28], [28, 36]), ([35, 37, 28], [28, 35, 37]), ([28, 38, 25], [25, 28, 38]), ([25, 39], [25, 39])])
def ref09_May_r5_B : List Nat := [0, 1, 3, 7, 15, 31, 63, 127, 255, 511, 1023, 511, 2559, 8191, 16383, 32767, 65535, 131071, 262143, 524287, 1048575, 2097151, 4194303, 8388607, 16777215, 33554431, 67108863, 134217727, 268435455, 536870911, 1073741823, 536870911, 2684354559, 8589934591, 17179869183, 34359738367, 536870911, 69256347647, 274877906943, 549755813887, 1099511627775]
theorem ref09_May_r5_t : Go.Proofs.YtmcannmjielalaaW.PrintLast.rtab .any (Go.Proofs.YtmcannmjielalaaW.PrintLast.opsOf Try.f140 5) = ref09_May_r5_T := by kernel_rfl
theorem ref09_May_r5_b : Go.Proofs.YtmcannmjielalaaW.PrintLast.waitsOk ref09_May_r5_T.2 ref09_May_r5_B = true := by kernel_rfl
set_option maxRecDepth 100000 in
set_option maxHeartbeats 4000000 in
theorem ref09_May (l : Lsa) (hl : l.ls.length ≤ 4000) : Triple Try.prog 140 [AV.agg (lsaC l)] [] (fun r h' => r = .v (.bool (lsaB l)) ∧ h' = []) := by
  refine triple_of Try.func140 rfl (by kernel_rfl) rfl (by simp) ?_
  refine aSeq ?_
  refine aReg ?_
  refine sq ?_
  refine qBox rfl rfl (by decide) rfl rfl (fun b1 => ?_)
  refine sp pMa ?_
  refine oNil ?_
  refine aSeq ?_
  refine aSeq ?_
  refine aReg ?_
  refine sp pMa ?_
  refine oNil ?_
  refine aBlock ?_
  refine aLoopI (α := Nat) (fun i => i ≤ l.ls.length ∧ linksB l.o 0 l.ls = linksB l.o (prevT l.ls i) (l.ls.drop i)) (fun i => ([(1, .v (.pointer (some ⟨b1, 0, none⟩))), (3, .int i)], [.box b1 (lsaC l)])) (fun i => l.ls.length - i) 0 ?_ ?_ ?_
  · skip
    exact ⟨by omega, rfl⟩
  · skip
    exact weak_sub ⟨rfl, gInt rfl (by simp), trivial⟩ (by repeat constructor)
  · rintro i ⟨hi, hv⟩
    skip
    refine aSeq ?_
    refine aSeq ?_
    refine aReg ?_
    refine sp pM ?_
    refine sp (by first | exact pFb fd_141_2 | exact pFs fd_141_2) ?_
    refine sr (by first | exact rS1 ty_139 | exact rB1 ty_139 | exact rAr ty_139 | exact rArL ty_139 | exact rArR2 ty_139) ?_
    refine sp (by first | exact pLm sl_139 | exact pLs sl_139 | exact pLv sl_139) ?_
    refine sp pB ?_
    refine oNil ?_
    refine aCondDec rfl (fun c9 => ?_) (fun c9 => ?_)
    · skip
      refine aSkip ?_
      refine aSeq ?_
      refine aBlock ?_
      refine aSeq ?_
      refine aReg ?_
      refine sp (by first | exact pFb fd_141_2 | exact pFs fd_141_2) ?_
      refine sr (by first | exact rS1 ty_139 | exact rB1 ty_139 | exact rAr ty_139 | exact rArL ty_139 | exact rArR2 ty_139) ?_
      refine sp pM ?_
      obtain ⟨a, ha⟩ : ∃ a, l.ls[i]? = some a := ⟨_, List.getElem?_eq_getElem (by omega)⟩
      refine sp (pIdxS rfl rfl rfl es_139 (by omega) (map_get (f := linkC) ha)) ?_
      refine sr (by first | exact rSW ty_138 rfl | exact rSA ty_138 | exact rBWa ty_138 | exact rBW ty_138 | exact rBA ty_138 | exact rArA ty_138 (fun _ => rfl)) ?_
      refine sq ?_
      refine qAlloc rfl rfl (by decide) ze_138 rfl (fun b4 => ?_)
      refine sa ?_
      refine oStW rfl rfl rfl rfl (by repeat constructor) ty_138 ?_
      refine oNil ?_
      refine aSeq ?_
      refine aDrawT ref09_May_r5_t ref09_May_r5_b [] 41 #[false, false, false, false, false, false, false, false, false, false, false, false, false, false, false, false, false, false, false, false, false, false, false, false, false, false, false, false, false, false, false, false, false, false, false, false, false, false, false, false, false] (by kernel_rfl) rfl rfl (fun HT => ?_)
      refine dp HT 0 rfl (pFb fd_138_0) ?_
      refine dr HT 1 rfl (rB1 ty_3) ?_
      refine dp HT 2 rfl pB ?_
      refine dp HT 3 rfl pM ?_
      refine dSplitDec 20 rfl (fun c20 => ?_) (fun c20 => ?_)
      · skip
        refine dS HT 4 rfl ?_
        refine dS HT 5 rfl ?_
        refine dS HT 6 rfl ?_
        refine dp HT 7 rfl pK ?_
        refine dp HT 8 rfl pM ?_
        refine dS HT 9 rfl ?_
        refine dS HT 10 rfl ?_
        refine dS HT 11 rfl ?_
        refine dS HT 12 rfl ?_
        refine dS HT 13 rfl ?_
        refine dp HT 14 rfl pK ?_
        refine dp HT 15 rfl pM ?_
        refine dS HT 16 rfl ?_
        refine dS HT 17 rfl ?_
        refine dS HT 18 rfl ?_
        refine dp HT 19 rfl pK ?_
        refine dp HT 20 rfl pM ?_
        refine dS HT 21 rfl ?_
        refine dS HT 22 rfl ?_
        refine dS HT 23 rfl ?_
        refine dp HT 24 rfl pK ?_
        refine dp HT 25 rfl pM ?_
        refine dS HT 26 rfl ?_
        refine dS HT 27 rfl ?_
        refine dS HT 28 rfl ?_
        refine dS HT 29 rfl ?_
        refine dS HT 30 rfl ?_
        refine dS HT 31 rfl ?_
        refine dS HT 32 rfl ?_
        refine dS HT 33 rfl ?_
        refine dS HT 34 rfl ?_
        refine dS HT 35 rfl ?_
        refine dS HT 36 rfl ?_
        refine dS HT 37 rfl ?_
        refine dS HT 38 rfl ?_
        refine dS HT 39 rfl ?_
        refine dp HT 40 rfl pK ?_
        refine dE HT ?_
        clear HT
        refine aCondT rfl ?_
        refine aSeq ?_
        refine aReg ?_
        refine sp pMa ?_
        refine oNil ?_
        refine aRet ?_
        refine ⟨_, [], _, rfl, .nil, ?_, rfl⟩
        show AV.v (.bool false) = _
        have hs := links_step (o := l.o) (last := prevT l.ls i) ha
        have hn : linksB l.o 0 l.ls = false := by
          rw [hv, hs]
          first | (have hq : ¬ b.t < a.t := by omega
                   rw [prevT_eq (by omega) hb]
                   simp [hq]; done) | (simp_all [nodeB]; done) | (simp [nodeB]; omega)
        simp [lsaB, hn]
      · skip
        refine dpG HT 4 rfl (pFb fd_138_0) ?_
        refine drG HT 5 rfl (rB1 ty_3) ?_
        refine dpG HT 6 rfl pB ?_
        refine dp HT 7 rfl pK ?_
        refine dp HT 8 rfl pM ?_
        refine dSplitDec 25 rfl (fun c25 => ?_) (fun c25 => ?_)
        · skip
          refine dS HT 9 rfl ?_
          refine dS HT 10 rfl ?_
          refine dS HT 11 rfl ?_
          refine dS HT 12 rfl ?_
          refine dS HT 13 rfl ?_
          refine dp HT 14 rfl pK ?_
          refine dp HT 15 rfl pM ?_
          refine dS HT 16 rfl ?_
          refine dS HT 17 rfl ?_
          refine dS HT 18 rfl ?_
          refine dp HT 19 rfl pK ?_
          refine dp HT 20 rfl pM ?_
          refine dS HT 21 rfl ?_
          refine dS HT 22 rfl ?_
          refine dS HT 23 rfl ?_
          refine dp HT 24 rfl pK ?_
          refine dp HT 25 rfl pM ?_
          refine dS HT 26 rfl ?_
          refine dS HT 27 rfl ?_
          refine dS HT 28 rfl ?_
          refine dS HT 29 rfl ?_
          refine dS HT 30 rfl ?_
          refine dS HT 31 rfl ?_
          refine dS HT 32 rfl ?_
          refine dS HT 33 rfl ?_
          refine dS HT 34 rfl ?_
          refine dS HT 35 rfl ?_
          refine dS HT 36 rfl ?_
          refine dS HT 37 rfl ?_
          refine dS HT 38 rfl ?_
          refine dS HT 39 rfl ?_
          refine dp HT 40 rfl pK ?_
          refine dE HT ?_
          clear HT
          refine aCondT rfl ?_
          refine aSeq ?_
          refine aReg ?_
          refine sp pMa ?_
          refine oNil ?_
          refine aRet ?_
          refine ⟨_, [], _, rfl, .nil, ?_, rfl⟩
          show AV.v (.bool false) = _
          have hs := links_step (o := l.o) (last := prevT l.ls i) ha
          have hn : linksB l.o 0 l.ls = false := by
            rw [hv, hs]
            first | (have hq : ¬ b.t < a.t := by omega
                     rw [prevT_eq (by omega) hb]
                     simp [hq]; done) | (simp_all [nodeB]; done) | (simp [nodeB]; omega)
          simp [lsaB, hn]
        · skip
          refine dpG HT 9 rfl (pFb fd_138_0) ?_
          refine drG HT 10 rfl (rB1 ty_3) ?_
          refine dpG HT 11 rfl (by first | exact pFb fd_141_0 | exact pFs fd_141_0) ?_
          refine drG HT 12 rfl (by first | exact rS1 ty_3 | exact rB1 ty_3 | exact rAr ty_3 | exact rArL ty_3 | exact rArR2 ty_3) ?_
          refine dpG HT 13 rfl pB ?_
          refine dp HT 14 rfl pK ?_
          refine dp HT 15 rfl pM ?_
          refine dSplitEq 32 rfl (fun c32 => ?_) (fun c32 => ?_)
          · skip
            refine dS HT 16 rfl ?_
            refine dS HT 17 rfl ?_
            refine dS HT 18 rfl ?_
            refine dp HT 19 rfl pK ?_
            refine dp HT 20 rfl pM ?_
            refine dS HT 21 rfl ?_
            refine dS HT 22 rfl ?_
            refine dS HT 23 rfl ?_
            refine dp HT 24 rfl pK ?_
            refine dp HT 25 rfl pM ?_
            refine dS HT 26 rfl ?_
            refine dS HT 27 rfl ?_
            refine dS HT 28 rfl ?_
            refine dS HT 29 rfl ?_
            refine dS HT 30 rfl ?_
            refine dS HT 31 rfl ?_
            refine dS HT 32 rfl ?_
            refine dS HT 33 rfl ?_
            refine dS HT 34 rfl ?_
            refine dS HT 35 rfl ?_
            refine dS HT 36 rfl ?_
            refine dS HT 37 rfl ?_
            refine dS HT 38 rfl ?_
            refine dS HT 39 rfl ?_
            refine dp HT 40 rfl pK ?_
            refine dE HT ?_
            clear HT
            refine aCondT rfl ?_
            refine aSeq ?_
            refine aReg ?_
            refine sp pMa ?_
            refine oNil ?_
            refine aRet ?_
            refine ⟨_, [], _, rfl, .nil, ?_, rfl⟩
            show AV.v (.bool false) = _
            have hs := links_step (o := l.o) (last := prevT l.ls i) ha
            have hn : linksB l.o 0 l.ls = false := by
              rw [hv, hs]
              first | (have hq : ¬ b.t < a.t := by omega
                       rw [prevT_eq (by omega) hb]
                       simp [hq]; done) | (simp_all [nodeB]; done) | (simp [nodeB]; omega)
            simp [lsaB, hn]
          · skip
            refine dpG HT 16 rfl (pFb fd_138_1) ?_
            refine drG HT 17 rfl (rB1 ty_3) ?_
            refine dpG HT 18 rfl pB ?_
            refine dp HT 19 rfl pK ?_
            refine dp HT 20 rfl pM ?_
            refine dSplitDec 37 rfl (fun c37 => ?_) (fun c37 => ?_)
            · skip
              refine dS HT 21 rfl ?_
              refine dS HT 22 rfl ?_
              refine dS HT 23 rfl ?_
              refine dp HT 24 rfl pK ?_
              refine dp HT 25 rfl pM ?_
              refine dS HT 26 rfl ?_
              refine dS HT 27 rfl ?_
              refine dS HT 28 rfl ?_
              refine dS HT 29 rfl ?_
              refine dS HT 30 rfl ?_
              refine dS HT 31 rfl ?_
              refine dS HT 32 rfl ?_
              refine dS HT 33 rfl ?_
              refine dS HT 34 rfl ?_
              refine dS HT 35 rfl ?_
              refine dS HT 36 rfl ?_
              refine dS HT 37 rfl ?_
              refine dS HT 38 rfl ?_
              refine dS HT 39 rfl ?_
              refine dp HT 40 rfl pK ?_
              refine dE HT ?_
              clear HT
              refine aCondT rfl ?_
              refine aSeq ?_
              refine aReg ?_
              refine sp pMa ?_
              refine oNil ?_
              refine aRet ?_
              refine ⟨_, [], _, rfl, .nil, ?_, rfl⟩
              show AV.v (.bool false) = _
              have hs := links_step (o := l.o) (last := prevT l.ls i) ha
              have hn : linksB l.o 0 l.ls = false := by
                rw [hv, hs]
                first | (have hq : ¬ b.t < a.t := by omega
                         rw [prevT_eq (by omega) hb]
                         simp [hq]; done) | (simp_all [nodeB]; done) | (simp [nodeB]; omega)
              simp [lsaB, hn]
            · skip
              refine dpG HT 21 rfl (pFb fd_138_1) ?_
              refine drG HT 22 rfl (rB1 ty_3) ?_
              refine dpG HT 23 rfl pB ?_
              refine dp HT 24 rfl pK ?_
              refine dp HT 25 rfl pM ?_
              refine dSplitDec 42 rfl (fun c42 => ?_) (fun c42 => ?_)
              · skip
                refine dS HT 26 rfl ?_
                refine dS HT 27 rfl ?_
                refine dS HT 28 rfl ?_
                refine dS HT 29 rfl ?_
                refine dS HT 30 rfl ?_
                refine dS HT 31 rfl ?_
                refine dS HT 32 rfl ?_
                refine dS HT 33 rfl ?_
                refine dS HT 34 rfl ?_
                refine dS HT 35 rfl ?_
                refine dS HT 36 rfl ?_
                refine dS HT 37 rfl ?_
                refine dS HT 38 rfl ?_
                refine dS HT 39 rfl ?_
                refine dp HT 40 rfl pK ?_
                refine dE HT ?_
                clear HT
                refine aCondT rfl ?_
                refine aSeq ?_
                refine aReg ?_
                refine sp pMa ?_
                refine oNil ?_
                refine aRet ?_
                refine ⟨_, [], _, rfl, .nil, ?_, rfl⟩
                show AV.v (.bool false) = _
                have hs := links_step (o := l.o) (last := prevT l.ls i) ha
                have hn : linksB l.o 0 l.ls = false := by
                  rw [hv, hs]
                  first | (have hq : ¬ b.t < a.t := by omega
                           rw [prevT_eq (by omega) hb]
                           simp [hq]; done) | (simp_all [nodeB]; done) | (simp [nodeB]; omega)
                simp [lsaB, hn]
              · skip
                refine dpG HT 26 rfl pM ?_
                refine dpG HT 27 rfl pB ?_
                refine dpG HT 28 rfl pM ?_
                refine dSplitDec 45 rfl (fun c45 => ?_) (fun c45 => ?_)
                · skip
                  refine dpG HT 29 rfl (by first | exact pFb fd_141_2 | exact pFs fd_141_2) ?_
                  refine drG HT 30 rfl (by first | exact rS1 ty_139 | exact rB1 ty_139 | exact rAr ty_139 | exact rArL ty_139 | exact rArR2 ty_139) ?_
                  refine dpG HT 31 rfl pM ?_
                  refine dpG HT 32 rfl pSu ?_
                  obtain ⟨b, hb⟩ : ∃ b, l.ls[i - 1]? = some b := ⟨_, List.getElem?_eq_getElem (by omega)⟩
                  refine dpG HT 33 rfl (pIdxS rfl rfl rfl es_139 (by omega) (by rw [show ((i : Int) - 1).toNat = i - 1 by omega]; exact map_get (f := linkC) hb)) ?_
                  refine dpG HT 34 rfl (by first | exact pFb fd_138_0 | exact pFs fd_138_0) ?_
                  refine drG HT 35 rfl (by first | exact rS1 ty_3 | exact rB1 ty_3 | exact rAr ty_3 | exact rArL ty_3 | exact rArR2 ty_3) ?_
                  refine dpG HT 36 rfl (pFb fd_138_0) ?_
                  refine drG HT 37 rfl (rB1 ty_3) ?_
                  refine dpG HT 38 rfl pB ?_
                  refine dpG HT 39 rfl pK ?_
                  refine dp HT 40 rfl pK ?_
                  refine dE HT ?_
                  clear HT
                  refine aCondDec rfl (fun c57 => ?_) (fun c57 => ?_)
                  · skip
                    refine aSeq ?_
                    refine aReg ?_
                    refine sp pMa ?_
                    refine oNil ?_
                    refine aRet ?_
                    refine ⟨_, [], _, rfl, .nil, ?_, rfl⟩
                    show AV.v (.bool false) = _
                    have hs := links_step (o := l.o) (last := prevT l.ls i) ha
                    have hn : linksB l.o 0 l.ls = false := by
                      rw [hv, hs]
                      first | (have hq : ¬ b.t < a.t := by omega
                               rw [prevT_eq (by omega) hb]
                               simp [hq]; done) | (simp_all [nodeB]; done) | (simp [nodeB]; omega)
                    simp [lsaB, hn]
                  · skip
                    refine aSkip ?_
                    refine aReg ?_
                    refine sp pM ?_
                    refine sp pAd ?_
                    refine sp pMa ?_
                    refine oNil ?_
                    have hs := links_step (o := l.o) (last := prevT l.ls i) ha
                    refine ⟨i + 1, ⟨by omega, ?_⟩, by show l.ls.length - (i + 1) < l.ls.length - i; omega, weak_sub ⟨rfl, gInt rfl (by simp), trivial⟩ (by repeat constructor)⟩
                    rw [hv, hs, prevT_succ ha]
                    have hq : prevT l.ls i < a.t := by
                      by_cases h0 : i = 0
                      · rw [prevT_zero h0]; omega
                      · first | (rw [prevT_eq (by omega) hb]; omega) | omega
                    simp_all [nodeB]
                    all_goals first | (intros; omega) | skip
                · skip
                  refine dS HT 29 rfl ?_
                  refine dS HT 30 rfl ?_
                  refine dS HT 31 rfl ?_
                  refine dS HT 32 rfl ?_
                  refine dS HT 33 rfl ?_
                  refine dS HT 34 rfl ?_
                  refine dS HT 35 rfl ?_
                  refine dS HT 36 rfl ?_
                  refine dS HT 37 rfl ?_
                  refine dS HT 38 rfl ?_
                  refine dpG HT 39 rfl pK ?_
                  refine dp HT 40 rfl pK ?_
                  refine dE HT ?_
                  clear HT
                  refine aCondF rfl ?_
                  refine aSkip ?_
                  refine aReg ?_
                  refine sp pM ?_
                  refine sp pAd ?_
                  refine sp pMa ?_
                  refine oNil ?_
                  have hs := links_step (o := l.o) (last := prevT l.ls i) ha
                  refine ⟨i + 1, ⟨by omega, ?_⟩, by show l.ls.length - (i + 1) < l.ls.length - i; omega, weak_sub ⟨rfl, gInt rfl (by simp), trivial⟩ (by repeat constructor)⟩
                  rw [hv, hs, prevT_succ ha]
                  have hq : prevT l.ls i < a.t := by
                    by_cases h0 : i = 0
                    · rw [prevT_zero h0]; omega
                    · first | (rw [prevT_eq (by omega) hb]; omega) | omega
                  simp_all [nodeB]
                  all_goals first | (intros; omega) | skip
    · skip
      refine aExit rfl ?_
      refine aSeq ?_
      refine aReg ?_
      refine sp (by first | exact pFb fd_141_0 | exact pFs fd_141_0) ?_
      refine sr (by first | exact rS1 ty_3 | exact rB1 ty_3 | exact rAr ty_3 | exact rArL ty_3 | exact rArR2 ty_3) ?_
      refine sp pB ?_
      refine sp pM ?_
      refine oSplitDec 61 rfl (fun c61 => ?_) (fun c61 => ?_)
      · skip
        refine gp (by first | exact pFb fd_141_0 | exact pFs fd_141_0) ?_
        refine gr (by first | exact rS1 ty_3 | exact rB1 ty_3 | exact rAr ty_3 | exact rArL ty_3 | exact rArR2 ty_3) ?_
        refine gp pB ?_
        refine sp pK ?_
        refine sp pM ?_
        refine oSplitDec 66 rfl (fun c66 => ?_) (fun c66 => ?_)
        · skip
          refine gp (by first | exact pFb fd_141_1 | exact pFs fd_141_1) ?_
          refine gr (by first | exact rS1 ty_3 | exact rB1 ty_3 | exact rAr ty_3 | exact rArL ty_3 | exact rArR2 ty_3) ?_
          refine gp pB ?_
          refine sp pK ?_
          refine sp pM ?_
          refine oSplitDec 71 rfl (fun c71 => ?_) (fun c71 => ?_)
          · skip
            refine gp (by first | exact pFb fd_141_1 | exact pFs fd_141_1) ?_
            refine gr (by first | exact rS1 ty_3 | exact rB1 ty_3 | exact rAr ty_3 | exact rArL ty_3 | exact rArR2 ty_3) ?_
            refine gp pB ?_
            refine sp pK ?_
            refine sp pM ?_
            refine oSplitDec 76 rfl (fun c76 => ?_) (fun c76 => ?_)
            · skip
              refine gp (by first | exact pFb fd_141_2 | exact pFs fd_141_2) ?_
              refine gr (by first | exact rS1 ty_139 | exact rB1 ty_139 | exact rAr ty_139 | exact rArL ty_139 | exact rArR2 ty_139) ?_
              refine gp (by first | exact pLm sl_139 | exact pLs sl_139 | exact pLv sl_139) ?_
              refine gp pB ?_
              refine sp pK ?_
              refine sp pMa ?_
              refine oNil ?_
              refine aRet ?_
              refine ⟨_, [], _, rfl, .nil, ?_, rfl⟩
              rw [List.drop_of_length_le (by omega)] at hv
              simp_all [retOf, lsaB, linksB, nodeB]
              all_goals first | omega | (intros; omega) | skip
            · skip
              refine gf ?_
              refine gf ?_
              refine gf ?_
              refine gf ?_
              refine sp pK ?_
              refine sp pMa ?_
              refine oNil ?_
              refine aRet ?_
              refine ⟨_, [], _, rfl, .nil, ?_, rfl⟩
              rw [List.drop_of_length_le (by omega)] at hv
              simp_all [retOf, lsaB, linksB, nodeB]
              all_goals first | omega | (intros; omega) | skip
          · skip
            refine gf ?_
            refine gf ?_
            refine gf ?_
            refine sp pK ?_
            refine sp pM ?_
            refine gf ?_
            refine gf ?_
            refine gf ?_
            refine gf ?_
            refine sp pK ?_
            refine sp pMa ?_
            refine oNil ?_
            refine aRet ?_
            refine ⟨_, [], _, rfl, .nil, ?_, rfl⟩
            rw [List.drop_of_length_le (by omega)] at hv
            simp_all [retOf, lsaB, linksB, nodeB]
            all_goals first | omega | (intros; omega) | skip
        · skip
          refine gf ?_
          refine gf ?_
          refine gf ?_
          refine sp pK ?_
          refine sp pM ?_
          refine gf ?_
          refine gf ?_
          refine gf ?_
          refine sp pK ?_
          refine sp pM ?_
          refine gf ?_
          refine gf ?_
          refine gf ?_
          refine gf ?_
          refine sp pK ?_
          refine sp pMa ?_
          refine oNil ?_
          refine aRet ?_
          refine ⟨_, [], _, rfl, .nil, ?_, rfl⟩
          rw [List.drop_of_length_le (by omega)] at hv
          simp_all [retOf, lsaB, linksB, nodeB]
          all_goals first | omega | (intros; omega) | skip
      · skip
        refine gf ?_
        refine gf ?_
        refine gf ?_
        refine sp pK ?_
        refine sp pM ?_
        refine gf ?_
        refine gf ?_
        refine gf ?_
        refine sp pK ?_
        refine sp pM ?_
        refine gf ?_
        refine gf ?_
        refine gf ?_
        refine sp pK ?_
        refine sp pM ?_
        refine gf ?_
        refine gf ?_
        refine gf ?_
        refine gf ?_
        refine sp pK ?_
        refine sp pMa ?_
        refine oNil ?_
        refine aRet ?_
        refine ⟨_, [], _, rfl, .nil, ?_, rfl⟩
        rw [List.drop_of_length_le (by omega)] at hv
        simp_all [retOf, lsaB, linksB, nodeB]
        all_goals first | omega | (intros; omega) | skip
/- waymarkref19.May -/
def ref19_May_r4_T : Bool × List (List Nat × List Nat) := (true, [([], []), ([], []), ([0, 1], [0, 1]), ([2], [2]), ([3], [3]), ([4], [4]), ([5, 4], [5]), ([6], [6]), ([7, 6], [6, 7]), ([8, 6, 6], [6, 8]), ([9], [9]), ([9], [9]), ([11, 9], [9, 11]), ([10, 12, 9], [9, 10, 12]), ([13, 9], [9, 13]), ([14, 9], [9, 14]), ([9], [9]), ([9], [9]), ([16, 17, 9], [9, 16, 17]), ([18, 9], [9, 18]), ([19, 9], [9, 19]), ([15, 20, 9], [9, 15, 20]), ([9, 21, 6], [6, 9, 21]), ([6, 22], [6, 22])])
def ref19_May_r4_B : List Nat := [0, 0, 3, 7, 15, 31, 63, 127, 255, 511, 1023, 1023, 3071, 8191, 16383, 32767, 1023, 1023, 197631, 459775, 984063, 2097151, 4194303, 8388607]
theorem ref19_May_r4_t : Go.Proofs.YtmcannmjielalaaW.PrintLast.rtab .any (Go.Proofs.YtmcannmjielalaaW.PrintLast.opsOf Try.f55 4) = ref19_May_r4_T := by kernel_rfl
theorem ref19_May_r4_b : Go.Proofs.YtmcannmjielalaaW.PrintLast.waitsOk ref19_May_r4_T.2 ref19_May_r4_B = true := by kernel_rfl
set_option maxRecDepth 100000 in
set_option maxHeartbeats 2000000 in
theorem ref19_May (db : List Lsa) (hl : db.length ≤ 4000) (hm : ∀ x ∈ db, x.ls.length ≤ 4000) : Triple Try.prog 55 [AV.sl 3 (db.map lsaC)] [] (fun r h' => r = .v (.bool (lsdbB 0 db)) ∧ h' = []) := by
  refine triple_of Try.func55 rfl (by kernel_rfl) rfl (by simp) ?_
  refine aSeq ?_
  refine aReg ?_
  refine sp pMa ?_
  refine oNil ?_
  refine aSeq ?_
  refine aSeq ?_
  refine aReg ?_
  refine sp pMa ?_
  refine oNil ?_
  refine aBlock ?_
  refine aLoopI (α := Nat) (fun i => i ≤ db.length ∧ lsdbB 0 db = lsdbB (prevO db i) (db.drop i)) (fun i => ([(0, AV.sl 3 (db.map lsaC)), (3, .int i)], [])) (fun i => db.length - i) 0 ?_ ?_ ?_
  · skip
    exact ⟨by omega, rfl⟩
  · skip
    exact weak_sub ⟨rfl, gInt rfl (by simp), trivial⟩ .nil
  · rintro i ⟨hi, hv⟩
    skip
    refine aSeq ?_
    refine aSeq ?_
    refine aReg ?_
    refine sp pM ?_
    refine sp pM ?_
    refine sp (by first | exact pLm sl_55 | exact pLs sl_55 | exact pLv sl_55) ?_
    refine sp pB ?_
    refine oNil ?_
    refine aCondDec rfl (fun c7 => ?_) (fun c7 => ?_)
    · skip
      refine aSkip ?_
      refine aSeq ?_
      refine aBlock ?_
      refine aSeq ?_
      refine aDrawT ref19_May_r4_t ref19_May_r4_b [] 24 #[false, false, false, false, false, false, false, false, false, false, false, false, false, false, false, false, false, false, false, false, false, false, false, false] (by kernel_rfl) rfl rfl (fun HT => ?_)
      refine dp HT 0 rfl pM ?_
      refine dp HT 1 rfl pM ?_
      obtain ⟨a, ha⟩ : ∃ a, db[i]? = some a := ⟨_, List.getElem?_eq_getElem (by omega)⟩
      refine dp HT 2 rfl (pIdxS rfl rfl rfl es_55 (by omega) (map_get (f := lsaC) ha)) ?_
      refine dr HT 3 rfl (by first | exact rSW ty_141 rfl | exact rSA ty_141 | exact rBWa ty_141 | exact rBW ty_141 | exact rBA ty_141 | exact rArA ty_141 (fun _ => rfl)) ?_
      refine dGo ?_
      refine e1 HT 4 rfl ?_
      refine qCallV rfl rfl (by decide) rfl rfl (lents_refl _) (ref09_May _ (hm _ (List.mem_of_getElem? ha))) ?_
      refine ef HT 5 rfl pNo ?_
      refine ef HT 6 rfl pM ?_
      refine eSplitNot 16 rfl (fun c16 => ?_) (fun c16 => ?_)
      · skip
        refine eS HT 7 rfl ?_
        refine eS HT 8 rfl ?_
        refine eS HT 9 rfl ?_
        refine eS HT 10 rfl ?_
        refine eS HT 11 rfl ?_
        refine eS HT 12 rfl ?_
        refine eS HT 13 rfl ?_
        refine eS HT 14 rfl ?_
        refine eS HT 15 rfl ?_
        refine eS HT 16 rfl ?_
        refine eS HT 17 rfl ?_
        refine eS HT 18 rfl ?_
        refine eS HT 19 rfl ?_
        refine eS HT 20 rfl ?_
        refine eS HT 21 rfl ?_
        refine eS HT 22 rfl ?_
        refine ef HT 23 rfl pK ?_
        refine eE HT ?_
        clear HT
        refine aCondT rfl ?_
        refine aSeq ?_
        refine aReg ?_
        refine sp pMa ?_
        refine oNil ?_
        refine aRet ?_
        refine ⟨_, [], _, rfl, .nil, ?_, rfl⟩
        show AV.v (.bool false) = _
        have hs := lsdb_step (last := prevO db i) ha
        rw [hv, hs]
        first | (have hq : ¬ b.o < a.o := by omega
                 rw [prevO_eq (by omega) hb]
                 simp [hq]; done) | (simp_all; done)
      · skip
        refine epG HT 7 rfl pM ?_
        refine epG HT 8 rfl pB ?_
        refine epG HT 9 rfl pM ?_
        refine eSplitDec 19 rfl (fun c19 => ?_) (fun c19 => ?_)
        · skip
          refine epG HT 10 rfl pM ?_
          refine epG HT 11 rfl pM ?_
          refine epG HT 12 rfl pSu ?_
          obtain ⟨b, hb⟩ : ∃ b, db[i - 1]? = some b := ⟨_, List.getElem?_eq_getElem (by omega)⟩
          refine epG HT 13 rfl (pIdxS rfl rfl rfl es_55 (by omega) (by rw [show ((i : Int) - 1).toNat = i - 1 by omega]; exact map_get (f := lsaC) hb)) ?_
          refine epG HT 14 rfl (by first | exact pFb fd_141_0 | exact pFs fd_141_0) ?_
          refine erG HT 15 rfl (by first | exact rS1 ty_3 | exact rB1 ty_3 | exact rAr ty_3 | exact rArL ty_3 | exact rArR2 ty_3) ?_
          refine epG HT 16 rfl pM ?_
          refine epG HT 17 rfl pM ?_
          refine epG HT 18 rfl (pIdxS rfl rfl rfl es_55 (by omega) (map_get (f := lsaC) ha)) ?_
          refine epG HT 19 rfl (by first | exact pFb fd_141_0 | exact pFs fd_141_0) ?_
          refine erG HT 20 rfl (by first | exact rS1 ty_3 | exact rB1 ty_3 | exact rAr ty_3 | exact rArL ty_3 | exact rArR2 ty_3) ?_
          refine epG HT 21 rfl pB ?_
          refine epG HT 22 rfl pK ?_
          refine ef HT 23 rfl pK ?_
          refine eE HT ?_
          clear HT
          refine aCondDec rfl (fun c33 => ?_) (fun c33 => ?_)
          · skip
            refine aSeq ?_
            refine aReg ?_
            refine sp pMa ?_
            refine oNil ?_
            refine aRet ?_
            refine ⟨_, [], _, rfl, .nil, ?_, rfl⟩
            show AV.v (.bool false) = _
            have hs := lsdb_step (last := prevO db i) ha
            rw [hv, hs]
            first | (have hq : ¬ b.o < a.o := by omega
                     rw [prevO_eq (by omega) hb]
                     simp [hq]; done) | (simp_all; done)
          · skip
            refine aSkip ?_
            refine aReg ?_
            refine sp pM ?_
            refine sp pAd ?_
            refine sp pMa ?_
            refine oNil ?_
            have hs := lsdb_step (last := prevO db i) ha
            refine ⟨i + 1, ⟨by omega, ?_⟩, by show db.length - (i + 1) < db.length - i; omega, weak_sub ⟨rfl, gInt rfl (by simp), trivial⟩ .nil⟩
            rw [hv, hs, prevO_succ ha]
            by_cases h0 : i = 0
            · rw [prevO_zero h0]
              have hq : 0 < a.o := by simp only [lsaB, nodeB, Bool.and_eq_true, decide_eq_true_eq] at c16; omega
              simp_all
            · first | (have hp := prevO_eq (by omega) hb; rw [hp]; simp_all; done) | omega
        · skip
          refine eS HT 10 rfl ?_
          refine eS HT 11 rfl ?_
          refine eS HT 12 rfl ?_
          refine eS HT 13 rfl ?_
          refine eS HT 14 rfl ?_
          refine eS HT 15 rfl ?_
          refine eS HT 16 rfl ?_
          refine eS HT 17 rfl ?_
          refine eS HT 18 rfl ?_
          refine eS HT 19 rfl ?_
          refine eS HT 20 rfl ?_
          refine eS HT 21 rfl ?_
          refine efG HT 22 rfl pK ?_
          refine ef HT 23 rfl pK ?_
          refine eE HT ?_
          clear HT
          refine aCondF rfl ?_
          refine aSkip ?_
          refine aReg ?_
          refine sp pM ?_
          refine sp pAd ?_
          refine sp pMa ?_
          refine oNil ?_
          have hs := lsdb_step (last := prevO db i) ha
          refine ⟨i + 1, ⟨by omega, ?_⟩, by show db.length - (i + 1) < db.length - i; omega, weak_sub ⟨rfl, gInt rfl (by simp), trivial⟩ .nil⟩
          rw [hv, hs, prevO_succ ha]
          by_cases h0 : i = 0
          · rw [prevO_zero h0]
            have hq : 0 < a.o := by simp only [lsaB, nodeB, Bool.and_eq_true, decide_eq_true_eq] at c16; omega
            simp_all
          · first | (have hp := prevO_eq (by omega) hb; rw [hp]; simp_all; done) | omega
    · skip
      refine aExit rfl ?_
      refine aSeq ?_
      refine aReg ?_
      refine sp pMa ?_
      refine oNil ?_
      refine aRet ?_
      refine ⟨_, [], _, rfl, .nil, ?_, rfl⟩
      show AV.v (.bool true) = _
      rw [hv, List.drop_of_length_le (by omega)]
      rfl
/- waymarkref09.Cost -/
set_option maxRecDepth 100000 in
set_option maxHeartbeats 400000 in
theorem ref09_Cost (l : Lsa) (n : Int) (hl : l.ls.length ≤ 4000) : Triple Try.prog 141 [AV.agg (lsaC l), AV.int n] [] (fun r h' => r = .int (costL l.ls n) ∧ h' = []) := by
  refine triple_of Try.func141 rfl (by kernel_rfl) rfl (by simp) ?_
  refine aSeq ?_
  refine aReg ?_
  refine sq ?_
  refine qBox rfl rfl (by decide) rfl rfl (fun b2 => ?_)
  refine sp pMa ?_
  refine oNil ?_
  refine aSeq ?_
  refine aSeq ?_
  refine aReg ?_
  refine sp pMa ?_
  refine oNil ?_
  refine aBlock ?_
  refine aLoopI (α := Nat) (fun i => i ≤ l.ls.length ∧ costL l.ls n = costL (l.ls.drop i) n) (fun i => ([(1, .int n), (2, .v (.pointer (some ⟨b2, 0, none⟩))), (5, .int i)], [.box b2 (lsaC l)])) (fun i => l.ls.length - i) 0 ?_ ?_ ?_
  · skip
    exact ⟨by omega, rfl⟩
  · skip
    exact weak_sub ⟨rfl, rfl, gInt rfl (by simp), trivial⟩ (by repeat constructor)
  · rintro i ⟨hi, hv⟩
    skip
    refine aSeq ?_
    refine aSeq ?_
    refine aReg ?_
    refine sp pM ?_
    refine sp (by first | exact pFb fd_141_2 | exact pFs fd_141_2) ?_
    refine sr (by first | exact rS1 ty_139 | exact rB1 ty_139 | exact rAr ty_139 | exact rArL ty_139 | exact rArR2 ty_139) ?_
    refine sp (by first | exact pLm sl_139 | exact pLs sl_139 | exact pLv sl_139) ?_
    refine sp pB ?_
    refine oNil ?_
    refine aCondDec rfl (fun c10 => ?_) (fun c10 => ?_)
    · skip
      refine aSkip ?_
      refine aSeq ?_
      refine aBlock ?_
      refine aSeq ?_
      refine aReg ?_
      refine sp (by first | exact pFb fd_141_2 | exact pFs fd_141_2) ?_
      refine sr (by first | exact rS1 ty_139 | exact rB1 ty_139 | exact rAr ty_139 | exact rArL ty_139 | exact rArR2 ty_139) ?_
      refine sp pM ?_
      obtain ⟨a, ha⟩ : ∃ a, l.ls[i]? = some a := ⟨_, List.getElem?_eq_getElem (by omega)⟩
      refine sp (pIdxS rfl rfl rfl es_139 (by omega) (map_get (f := linkC) ha)) ?_
      refine sp (by first | exact pFb fd_138_0 | exact pFs fd_138_0) ?_
      refine sr (by first | exact rS1 ty_3 | exact rB1 ty_3 | exact rAr ty_3 | exact rArL ty_3 | exact rArR2 ty_3) ?_
      refine sp pM ?_
      refine sp pB ?_
      refine oNil ?_
      refine aCondEq rfl (fun c20 => ?_) (fun c20 => ?_)
      · skip
        refine aSeq ?_
        refine aReg ?_
        refine sp (by first | exact pFb fd_141_2 | exact pFs fd_141_2) ?_
        refine sr (by first | exact rS1 ty_139 | exact rB1 ty_139 | exact rAr ty_139 | exact rArL ty_139 | exact rArR2 ty_139) ?_
        refine sp pM ?_
        refine sp (pIdxS rfl rfl rfl es_139 (by omega) (map_get (f := linkC) ha)) ?_
        refine sp (by first | exact pFb fd_138_1 | exact pFs fd_138_1) ?_
        refine sr (by first | exact rS1 ty_3 | exact rB1 ty_3 | exact rAr ty_3 | exact rArL ty_3 | exact rArR2 ty_3) ?_
        refine sp pMa ?_
        refine oNil ?_
        refine aRet ?_
        refine ⟨_, [], _, rfl, .nil, ?_, rfl⟩
        show AV.int _ = AV.int _
        rw [hv, drop_step ha]
        simp [costL, c20]
      · skip
        refine aSkip ?_
        refine aReg ?_
        refine sp pM ?_
        refine sp pAd ?_
        refine sp pMa ?_
        refine oNil ?_
        refine ⟨i + 1, ⟨by omega, ?_⟩, by show l.ls.length - (i + 1) < l.ls.length - i; omega, weak_sub ⟨rfl, rfl, gInt rfl (by simp), trivial⟩ (by repeat constructor)⟩
        rw [hv, drop_step ha]
        simp [costL, c20]
    · skip
      refine aExit rfl ?_
      refine aSeq ?_
      refine aReg ?_
      refine sp pMa ?_
      refine oNil ?_
      refine aRet ?_
      refine ⟨_, [], _, rfl, .nil, ?_, rfl⟩
      show AV.int 0 = AV.int _
      rw [hv, List.drop_of_length_le (by omega)]
      rfl
theorem cast_lsa0 : Cast (.agg [.int 0, .int 0, .v (.slice none 0 0)]) (.agg (lsaC ⟨0, 0, []⟩)) := by
  refine cast_aggs rfl (fun i y c hy hc => ?_)
  match i with
  | 0 => simp at hy; subst hy; simp [lsaC] at hc; subst hc; exact Cast.refl
  | 1 => simp at hy; subst hy; simp [lsaC] at hc; subst hc; exact Cast.refl
  | 2 => simp at hy; subst hy; simp [lsaC] at hc; subst hc; exact cast_nil
  | i + 3 => simp at hy
/- waymarkref11.Get -/
set_option maxRecDepth 100000 in
set_option maxHeartbeats 400000 in
theorem ref11_Get (db : List Lsa) (n : Int) (hl : db.length ≤ 4000) : Triple Try.prog 142 [AV.sl 3 (db.map lsaC), AV.int n] [] (fun r h' => r = .agg (lsaC (refGet db n)) ∧ h' = []) := by
  refine triple_ofR Try.func142 rfl (by kernel_rfl) rfl (by simp) ?_
  refine aSeq ?_
  refine aReg ?_
  refine sq ?_
  refine qAlloc rfl rfl (by decide) ze_141 rfl (fun b4 => ?_)
  refine oNil ?_
  refine aSeq ?_
  refine aSeq ?_
  refine aReg ?_
  refine sp pMa ?_
  refine oNil ?_
  refine aBlock ?_
  refine aLoopI (α := Nat × List AV) (fun (i, z) => i ≤ db.length ∧ refGet db n = refGet (db.drop i) n ∧ z.length = 3) (fun (i, z) => ([(0, AV.sl 3 (db.map lsaC)), (1, .int n), (4, .v (.pointer (some ⟨b4, 0, none⟩))), (5, .int i)], [.box b4 z])) (fun (i, z) => db.length - i) (0, [.int 0, .int 0, .v (.slice none 0 0)]) ?_ ?_ ?_
  · skip
    exact ⟨by omega, rfl, rfl⟩
  · skip
    exact weak_sub ⟨rfl, rfl, rfl, gInt rfl (by simp), trivial⟩ (by repeat constructor)
  · rintro ⟨i, z⟩ ⟨hi, hv, hz⟩
    skip
    refine aSeq ?_
    refine aSeq ?_
    refine aReg ?_
    refine sp pM ?_
    refine sp pM ?_
    refine sp (by first | exact pLm sl_55 | exact pLs sl_55 | exact pLv sl_55) ?_
    refine sp pB ?_
    refine oNil ?_
    refine aCondDec rfl (fun c9 => ?_) (fun c9 => ?_)
    · skip
      refine aSkip ?_
      refine aSeq ?_
      refine aBlock ?_
      refine aSeq ?_
      refine aReg ?_
      refine sp pM ?_
      refine sp pM ?_
      obtain ⟨a, ha⟩ : ∃ a, db[i]? = some a := ⟨_, List.getElem?_eq_getElem (by omega)⟩
      obtain ⟨z0, z1, z2, rfl⟩ : ∃ z0 z1 z2, z = [z0, z1, z2] := by
        match z, hz with
        | [z0, z1, z2], _ => exact ⟨z0, z1, z2, rfl⟩
      refine sp (pIdxS rfl rfl rfl es_55 (by omega) (map_get (f := lsaC) ha)) ?_
      refine sp (by first | exact pFb fd_141_0 | exact pFs fd_141_0) ?_
      refine sr (by first | exact rS1 ty_3 | exact rB1 ty_3 | exact rAr ty_3 | exact rArL ty_3 | exact rArR2 ty_3) ?_
      refine sp pM ?_
      refine sp pB ?_
      refine oNil ?_
      refine aCondEq rfl (fun c18 => ?_) (fun c18 => ?_)
      · skip
        refine aSeq ?_
        refine aReg ?_
        refine sp pM ?_
        refine sp pM ?_
        refine sp (pIdxS rfl rfl rfl es_55 (by omega) (map_get (f := lsaC) ha)) ?_
        refine sr (by first | exact rSW ty_141 rfl | exact rSA ty_141 | exact rBWa ty_141 | exact rBW ty_141 | exact rBA ty_141 | exact rArA ty_141 (fun _ => rfl)) ?_
        refine sa ?_
        refine oStW rfl rfl rfl rfl (by repeat constructor) ty_141 ?_
        refine oNil ?_
        refine aRet ?_
        refine ⟨_, [], _, .cons (.cellA rfl List.mem_cons_self ty_141) .nil, .nil, ?_, rfl⟩
        show AV.agg _ = AV.agg _
        rw [hv, drop_step ha]
        simp [refGet, c18]
        rfl
      · skip
        refine aSkip ?_
        refine aReg ?_
        refine sp pM ?_
        refine sp pAd ?_
        refine sp pMa ?_
        refine oNil ?_
        refine ⟨(i + 1, [z0, z1, z2]), ⟨by omega, ?_, hz⟩, by show db.length - (i + 1) < db.length - i; omega, weak_sub ⟨rfl, rfl, rfl, gInt rfl (by simp), trivial⟩ (by repeat constructor)⟩
        rw [hv, drop_step ha]
        simp [refGet, c18]
    · skip
      refine aExit rfl ?_
      refine aSeq ?_
      refine aReg ?_
      obtain ⟨z0, z1, z2, rfl⟩ : ∃ z0 z1 z2, z = [z0, z1, z2] := by
        match z, hz with
        | [z0, z1, z2], _ => exact ⟨z0, z1, z2, rfl⟩
      refine sp (pBuild rfl st_141 ze_141 rfl rfl rfl rfl) ?_
      refine sa ?_
      refine oStW rfl rfl rfl rfl (by repeat constructor) ty_141 ?_
      refine oNil ?_
      refine aRet ?_
      refine ⟨_, [], _, .cons (.cast (.cellA rfl List.mem_cons_self ty_141) (b := .agg (lsaC ⟨0, 0, []⟩)) ?_) .nil, .nil, ?_, rfl⟩
      · exact cast_lsa0
      show AV.agg _ = AV.agg _
      rw [hv, List.drop_of_length_le (by omega)]
      rfl
theorem linksB_spec {o : Int} : ∀ {l : List Link} {last : Int}, linksB o last l = true → (∀ x ∈ l, last < x.t ∧ nodeB x.t = true ∧ x.t ≠ o ∧ 1 ≤ x.c ∧ x.c ≤ 1073741824) ∧ l.Pairwise (fun x y => x.t < y.t)
  | [], _, _ => ⟨fun x hx => by simp at hx, .nil⟩
  | y :: l, last, h => by
    simp only [linksB, Bool.and_eq_true, decide_eq_true_eq, Bool.not_eq_true', beq_eq_false_iff_ne] at h
    obtain ⟨⟨⟨⟨⟨h1, h2⟩, h3⟩, h4⟩, h5⟩, h6⟩ := h
    obtain ⟨i1, i2⟩ := linksB_spec h6
    refine ⟨fun x hx => ?_, .cons (fun x hx => (i1 x hx).1) i2⟩
    rcases List.mem_cons.1 hx with rfl | hx
    · exact ⟨h2, h1, h3, h4, h5⟩
    · have := i1 x hx; exact ⟨by omega, this.2⟩
theorem lsdbB_spec : ∀ {l : List Lsa} {last : Int}, lsdbB last l = true → (∀ x ∈ l, last < x.o ∧ lsaB x = true) ∧ l.Pairwise (fun x y => x.o < y.o)
  | [], _, _ => ⟨fun x hx => by simp at hx, .nil⟩
  | y :: l, last, h => by
    simp only [lsdbB, Bool.and_eq_true, decide_eq_true_eq] at h
    obtain ⟨⟨h1, h2⟩, h3⟩ := h
    obtain ⟨i1, i2⟩ := lsdbB_spec h3
    refine ⟨fun x hx => ?_, .cons (fun x hx => (i1 x hx).1) i2⟩
    rcases List.mem_cons.1 hx with rfl | hx
    · exact ⟨h2, h1⟩
    · have := i1 x hx; exact ⟨by omega, this.2⟩
theorem pw_inj {α : Type} {f : α → Int} : ∀ {l : List α}, l.Pairwise (fun x y => f x < f y) → ∀ x ∈ l, ∀ y ∈ l, f x = f y → x = y
  | [], _, x, hx, _, _, _ => by simp at hx
  | z :: l, h, x, hx, y, hy, e => by
    rw [List.pairwise_cons] at h
    rcases List.mem_cons.1 hx with h1 | h1 <;> rcases List.mem_cons.1 hy with h2 | h2
    · rw [h1, h2]
    · subst h1; have := h.1 y h2; omega
    · subst h2; have := h.1 x h1; omega
    · exact pw_inj h.2 x h1 y h2 e
theorem find_rev {α : Type} {p : α → Bool} {l : List α} (hu : ∀ x ∈ l, ∀ y ∈ l, p x = true → p y = true → x = y) : l.reverse.find? p = l.find? p := by
  cases h1 : l.reverse.find? p with
  | none =>
    symm
    rw [List.find?_eq_none] at h1 ⊢
    exact fun x hx => h1 x (by simpa using hx)
  | some x =>
    cases h2 : l.find? p with
    | none =>
      rw [List.find?_eq_none] at h2
      exact absurd (List.find?_some h1) (h2 x (by simpa using List.mem_of_find?_eq_some h1))
    | some y => rw [hu x (by simpa using List.mem_of_find?_eq_some h1) y (List.mem_of_find?_eq_some h2) (List.find?_some h1) (List.find?_some h2)]
theorem getL_ref {db : List Lsa} (h : lsdbB 0 db = true) (n : Int) : getL db n = refGet db n := by
  unfold getL refGet
  rw [find_rev (fun x hx y hy px py => ?_)]
  have := (lsdbB_spec h).2
  exact pw_inj this x hx y hy (by simp at px py; rw [px, py])
theorem arcsAll_ref {db : List Lsa} (h : lsdbB 0 db = true) : arcsAll db = refAll db := by
  have : arcOf db = refArc db := by funext l x; simp only [arcOf, refArc, getL_ref h]
  unfold arcsAll refAll arcsOf refArcs
  rw [this]
theorem lsaB_links {l : Lsa} (h : lsaB l = true) : linksB l.o 0 l.ls = true := by simp only [lsaB, Bool.and_eq_true] at h; exact h.2
theorem mem_arcsAll {db : List Lsa} {a : Arc} : a ∈ arcsAll db ↔ ∃ l ∈ db, ∃ x ∈ l.ls, 0 < costL (getL db x.t).ls l.o ∧ a = ⟨l.o, x.t, x.c⟩ := by
  unfold arcsAll arcsOf arcOf
  simp only [List.mem_flatMap, List.mem_filterMap]
  constructor
  · rintro ⟨l, hl, x, hx, h⟩
    split at h
    · rename_i hc; exact ⟨l, hl, x, hx, hc, by simpa using h.symm⟩
    · simp at h
  · rintro ⟨l, hl, x, hx, hc, rfl⟩
    exact ⟨l, hl, x, hx, by rw [if_pos hc]⟩
theorem orderA_neg {a b : Arc} : ltA a b ↔ a.f < b.f ∨ (a.f = b.f ∧ a.t < b.t) := Iff.rfl
theorem arcsAll_ok {db : List Lsa} (h : lsdbB 0 db = true) : arcsB none (arcsAll db) = true := by
  have hs := lsdbB_spec h
  refine arcsB_of (fun a ha => ?_) (fun q hq => by cases hq) ?_
  · obtain ⟨l, hl, x, hx, _, rfl⟩ := mem_arcsAll.1 ha
    have h1 := (hs.1 l hl).2
    have h2 := (linksB_spec (lsaB_links h1)).1 x hx
    simp only [lsaB, Bool.and_eq_true] at h1
    simp only [arcB, h1.1.1.1.1, h2.2.1, Bool.and_eq_true, Bool.not_eq_true', beq_eq_false_iff_ne, decide_eq_true_eq]
    exact ⟨⟨⟨⟨trivial, trivial⟩, fun e => h2.2.2.1 e.symm⟩, h2.2.2.2.1⟩, h2.2.2.2.2⟩
  · unfold arcsAll
    rw [List.pairwise_flatMap]
    refine ⟨fun l hl => ?_, hs.2.imp ?_⟩
    · unfold arcsOf
      rw [List.pairwise_filterMap]
      refine (linksB_spec (lsaB_links (hs.1 l hl).2)).2.imp ?_
      intro x y hxy a ha b hb
      unfold arcOf at ha hb
      split at ha <;> simp at ha
      split at hb <;> simp at hb
      subst ha; subst hb
      exact orderA_neg.2 (.inr ⟨rfl, hxy⟩)
    · intro l m hlm a ha b hb
      unfold arcsOf arcOf at ha hb
      simp only [List.mem_filterMap] at ha hb
      obtain ⟨x, _, ha⟩ := ha
      obtain ⟨y, _, hb⟩ := hb
      split at ha <;> simp at ha
      split at hb <;> simp at hb
      subst ha; subst hb
      exact orderA_neg.2 (.inl hlm)
theorem arcs_len {db : List Lsa} (hl : db.length ≤ 70) (hm : ∀ x ∈ db, x.ls.length ≤ 40) : (arcsDb db).length ≤ 4000 := by
  have key : ∀ (d : List Lsa), (∀ x ∈ d, x.ls.length ≤ 40) → (d.flatMap (arcsOf db)).length ≤ d.length * 40 := by
    intro d
    induction d with
    | nil => intro _; simp
    | cons x d ih =>
      intro hm
      have h1 := ih (fun y hy => hm y (by simp [hy]))
      have h2 : (arcsOf db x).length ≤ x.ls.length := List.length_filterMap_le _ _
      have h3 := hm x (by simp)
      rw [List.flatMap_cons, List.length_append, List.length_cons]
      omega
  unfold arcsDb
  split
  · have := key db hm
    unfold arcsAll
    omega
  · simp
end A
end Go.Proofs.Ytmcannmjielalaa
set_option linter.unusedVariables false
set_option linter.unusedSimpArgs false
namespace Go.Proofs.Ytmcannmjielalaa
namespace A
def farI : Int := 18446744073709551615
def addS (a b : Int) : Int := if a > farI - b then farI else a + b
/-! ### A heap of spots -/
def lessS (a b : Int × Int) : Bool := if a.1 ≠ b.1 then decide (a.1 < b.1) else decide (a.2 < b.2)
theorem lessS_iff {a b : Int × Int} : lessS a b = true ↔ a.1 < b.1 ∨ a.1 = b.1 ∧ a.2 < b.2 := by
  unfold lessS
  split
  · rw [decide_eq_true_eq]; omega
  · rw [decide_eq_true_eq]; omega
theorem lessS_no {a b : Int × Int} : lessS a b = false ↔ ¬ (a.1 < b.1 ∨ a.1 = b.1 ∧ a.2 < b.2) := by
  rw [← lessS_iff, Bool.not_eq_true]
/-- No less than, at places that there are. -/
def NL (h : List (Int × Int)) (j k : Nat) : Prop := ∀ x y, h[j]? = some x → h[k]? = some y → lessS x y = false
def HeapOk (h : List (Int × Int)) : Prop := ∀ j, 0 < j → NL h j ((j - 1) / 2)
theorem heap_min {h : List (Int × Int)} (hk : HeapOk h) {x : Int × Int} (h0 : h[0]? = some x) : ∀ (j : Nat) y, h[j]? = some y → lessS y x = false := fun j => by
  induction j using Nat.strongRecOn with
  | _ j ih =>
    intro y hy
    by_cases hj : j = 0
    · subst hj
      rw [h0] at hy
      cases hy
      rw [lessS_no]; omega
    · have hlt : (j - 1) / 2 < j := by omega
      have hl := (List.getElem?_eq_some_iff.1 hy).1
      obtain ⟨z, hz⟩ : ∃ z, h[(j - 1) / 2]? = some z := ⟨_, List.getElem?_eq_getElem (by omega)⟩
      have h1 := ih _ hlt z hz
      have h2 := hk j (by omega) y z hy hz
      rw [lessS_no] at *
      omega
theorem heap_first {h : List (Int × Int)} (hk : HeapOk h) {x : Int × Int} (h0 : h[0]? = some x) : ∀ e ∈ h, x.1 ≤ e.1 := fun e he => by
  obtain ⟨j, hj⟩ := List.mem_iff_getElem?.1 he
  have := heap_min hk h0 j e hj
  rw [lessS_no] at this
  omega
def swapH (h : List (Int × Int)) (i k : Nat) : List (Int × Int) := (h.set i (h.getD k (0, 0))).set k (h.getD i (0, 0))
theorem swapH_len (h : List (Int × Int)) (i k : Nat) : (swapH h i k).length = h.length := by simp [swapH]
theorem swapH_get {h : List (Int × Int)} {i k : Nat} (hi : i < h.length) (hk : k < h.length) (j : Nat) : (swapH h i k)[j]? = if j = k then h[i]? else if j = i then h[k]? else h[j]? := by
  unfold swapH
  simp only [List.getElem?_set, List.length_set, List.getD]
  by_cases h1 : j = k
  · subst h1; simp [hk, hi]
  · rw [if_neg (fun e => h1 e.symm), if_neg h1]
    by_cases h2 : j = i
    · subst h2; simp [hk, hi]
    · rw [if_neg (fun e => h2 e.symm), if_neg h2]
theorem swapH_perm {h : List (Int × Int)} {i k : Nat} (hi : i < h.length) (hk : k < h.length) : (swapH h i k).Perm h := by
  have := List.set_set_perm hi hk
  unfold swapH
  simpa [List.getD, hi, hk] using this
/-- All is in order but one spot and the one above it. -/
def UpOk (h : List (Int × Int)) (i : Nat) : Prop := (∀ j, 0 < j → j ≠ i → NL h j ((j - 1) / 2)) ∧ (∀ j, 0 < i → 0 < j → (j - 1) / 2 = i → NL h j ((i - 1) / 2))
theorem up_end {h : List (Int × Int)} {i : Nat} (u : UpOk h i) (he : i = 0 ∨ NL h i ((i - 1) / 2)) : HeapOk h := fun j hj => by
  by_cases e : j = i
  · subst e
    rcases he with h | h
    · omega
    · exact h
  · exact u.1 j hj e
theorem up_swap {h : List (Int × Int)} {i : Nat} (hi : i < h.length) (h0 : 0 < i) (u : UpOk h i) {x y : Int × Int} (hx : h[i]? = some x) (hy : h[(i - 1) / 2]? = some y) (hlt : lessS x y = true) : UpOk (swapH h i ((i - 1) / 2)) ((i - 1) / 2) := by
  have hk : (i - 1) / 2 < h.length := by omega
  have hp : (i - 1) / 2 < i := by omega
  have ht : ∀ a b c : Int × Int, lessS b a = false → lessS c b = false → lessS c a = false := fun a b c h1 h2 => by rw [lessS_no] at *; omega
  generalize hq : (i - 1) / 2 = q at *
  refine ⟨fun j hj hne a b ha hb => ?_, fun j hq0 hj hjq a b ha hb => ?_⟩
  · rw [swapH_get hi hk] at ha hb
    rw [if_neg hne] at ha
    by_cases hji : j = i
    · subst hji
      rw [if_pos rfl, hy] at ha
      rw [hq, if_pos rfl, hx] at hb
      cases ha; cases hb
      rw [lessS_iff] at hlt
      rw [lessS_no]
      omega
    · rw [if_neg hji] at ha
      by_cases hj1 : (j - 1) / 2 = q
      · rw [hj1, if_pos rfl, hx] at hb
        cases hb
        have h1 := u.1 j hj hji a y ha (by rw [hj1]; exact hy)
        rw [lessS_iff] at hlt
        rw [lessS_no] at *
        omega
      · rw [if_neg hj1] at hb
        by_cases hj2 : (j - 1) / 2 = i
        · rw [hj2, if_pos rfl, hy] at hb
          cases hb
          exact u.2 j h0 hj hj2 a y ha (by rw [hq]; exact hy)
        · rw [if_neg hj2] at hb
          exact u.1 j hj hji a b ha hb
  · rw [swapH_get hi hk] at ha hb
    have hbq : h[(q - 1) / 2]? = some b := by
      rw [if_neg (by omega), if_neg (by omega)] at hb
      exact hb
    have hyb := u.1 q hq0 (by omega) y b hy hbq
    rw [if_neg (by omega)] at ha
    by_cases hji : j = i
    · subst hji
      rw [if_pos rfl, hy] at ha
      cases ha
      exact hyb
    · rw [if_neg hji] at ha
      have h1 := u.1 j hj hji a y ha (by rw [hjq]; exact hy)
      exact ht _ _ _ hyb h1
theorem up_new {h : List (Int × Int)} {s : Int × Int} (hk : HeapOk h) : UpOk (h ++ [s]) h.length := by
  have hlen : (h ++ [s]).length = h.length + 1 := by simp
  refine ⟨fun j hj hne a b ha hb => ?_, fun j h0 hj hji a b ha hb => ?_⟩
  · have := (List.getElem?_eq_some_iff.1 ha).1
    rw [List.getElem?_append_left (by omega)] at ha hb
    exact hk j hj a b ha hb
  · have := (List.getElem?_eq_some_iff.1 ha).1
    omega
/-- All is in order but one spot and those below it. -/
def DownOk (h : List (Int × Int)) (i : Nat) : Prop := (∀ j, 0 < j → (j - 1) / 2 ≠ i → NL h j ((j - 1) / 2)) ∧ (∀ j, 0 < i → 0 < j → (j - 1) / 2 = i → NL h j ((i - 1) / 2))
/-- The least of a spot and those below it. -/
def LeastAt (h : List (Int × Int)) (i k : Nat) : Prop := (k = i ∨ k = 2 * i + 1 ∨ k = 2 * i + 2) ∧ NL h i k ∧ NL h (2 * i + 1) k ∧ NL h (2 * i + 2) k
theorem down_end {h : List (Int × Int)} {i : Nat} (d : DownOk h i) (hl : LeastAt h i i) : HeapOk h := fun j hj => by
  by_cases e : (j - 1) / 2 = i
  · rw [e]
    rcases (show j = 2 * i + 1 ∨ j = 2 * i + 2 by omega) with rfl | rfl
    · exact hl.2.2.1
    · exact hl.2.2.2
  · exact d.1 j hj e
theorem down_swap {h : List (Int × Int)} {i k : Nat} (hi : i < h.length) (hk : k < h.length) (d : DownOk h i) (hl : LeastAt h i k) (hne : k ≠ i) : DownOk (swapH h i k) k := by
  obtain ⟨hkk, hl0, hl1, hl2⟩ := hl
  have hki : (k - 1) / 2 = i := by omega
  have hk0 : 0 < k := by omega
  obtain ⟨x, hx⟩ : ∃ x, h[i]? = some x := ⟨_, List.getElem?_eq_getElem hi⟩
  obtain ⟨y, hy⟩ : ∃ y, h[k]? = some y := ⟨_, List.getElem?_eq_getElem hk⟩
  refine ⟨fun j hj hjk a b ha hb => ?_, fun j _ hj hjk a b ha hb => ?_⟩
  · rw [swapH_get hi hk] at ha hb
    rw [if_neg hjk] at hb
    by_cases e1 : j = k
    · subst e1
      rw [if_pos rfl, hx] at ha
      rw [hki, if_pos rfl, hy] at hb
      cases ha; cases hb
      exact hl0 x y hx hy
    · rw [if_neg e1] at ha
      by_cases e2 : j = i
      · subst e2
        rw [if_pos rfl, hy] at ha
        cases ha
        rw [if_neg (by omega)] at hb
        exact d.2 k hj hk0 hki y b hy hb
      · rw [if_neg e2] at ha
        by_cases e3 : (j - 1) / 2 = i
        · rw [e3, if_pos rfl, hy] at hb
          cases hb
          rcases (show j = 2 * i + 1 ∨ j = 2 * i + 2 by omega) with rfl | rfl
          · exact hl1 a y ha hy
          · exact hl2 a y ha hy
        · rw [if_neg e3] at hb
          exact d.1 j hj e3 a b ha hb
  · rw [swapH_get hi hk] at ha hb
    rw [hki, if_neg (by omega), if_pos rfl, hy] at hb
    cases hb
    rw [if_neg (by omega), if_neg (by omega)] at ha
    have := d.1 j hj (by omega) a y ha (by rw [hjk]; exact hy)
    exact this
theorem down_new {h : List (Int × Int)} {x : Int × Int} (hk : HeapOk h) : DownOk ((h.set 0 x).take (h.length - 1)) 0 := by
  refine ⟨fun j hj hj0 a b ha hb => ?_, fun j h0 => by omega⟩
  have h1 : ∀ (m : Nat) z, 0 < m → ((h.set 0 x).take (h.length - 1))[m]? = some z → h[m]? = some z := fun m z hm hz => by
    rw [List.getElem?_take] at hz
    split at hz
    · rw [List.getElem?_set_ne (by omega)] at hz; exact hz
    · cases hz
  exact hk j hj a b (h1 j a hj ha) (h1 _ b (by omega) hb)
theorem take_perm {h : List (Int × Int)} {x y : Int × Int} (h0 : h[0]? = some x) (hl : h[h.length - 1]? = some y) : h.Perm (x :: (h.set 0 y).take (h.length - 1)) := by
  cases h with
  | nil => simp at h0
  | cons z t =>
    simp at h0
    subst h0
    refine .cons _ ?_
    cases ht : t with
    | nil => simp
    | cons u v =>
      rw [ht] at hl
      have hne : (u :: v) ≠ [] := by simp
      have hlast : (u :: v).getLast hne = y := by
        rw [List.getLast_eq_getElem]
        simp at hl
        simpa using hl
      have hd := List.dropLast_concat_getLast hne
      rw [hlast] at hd
      have h2 : ((z :: u :: v).set 0 y).take ((z :: u :: v).length - 1) = y :: (u :: v).dropLast := by
        simp [List.dropLast_eq_take]
      rw [h2]
      calc (u :: v).Perm ((u :: v).dropLast ++ [y]) := .of_eq hd.symm
        _ |>.Perm (y :: (u :: v).dropLast) := List.perm_append_comm (l₂ := [y])
end A
end Go.Proofs.Ytmcannmjielalaa
set_option linter.unusedVariables false
set_option linter.unusedSimpArgs false
namespace Go.Proofs.Ytmcannmjielalaa
namespace A
structure Rt where
  nd : Int
  via : Int
  c : Int
  deriving DecidableEq, Inhabited
/-! ### Walks and their costs -/
inductive Wk (l : List Arc) (r : Int) : Int → Int → Prop
  | refl : Wk l r r 0
  | step {u c : Int} {a : Arc} : Wk l r u c → a ∈ l → a.f = u → Wk l r a.t (c + a.c)
theorem Wk.nn {l : List Arc} (hl : ∀ a ∈ l, AOk a) {r v c : Int} (k : Wk l r v c) : 0 ≤ c := by
  induction k with
  | refl => exact Int.le_refl _
  | step _ ha _ ih => have := hl _ ha; unfold AOk at this; omega
theorem Wk.trans {l : List Arc} {r u v c e : Int} (k : Wk l r u c) (k2 : Wk l u v e) : Wk l r v (c + e) := by
  induction k2 with
  | refl => rw [Int.add_zero]; exact k
  | step _ ha hu ih => rw [← Int.add_assoc]; exact .step ih ha hu
theorem Wk.rng {l : List Arc} (hl : ∀ a ∈ l, AOk a) {r v c : Int} (k : Wk l r v c) : v = r ∨ (1 ≤ v ∧ v ≤ 64 ∧ 1 ≤ c) := by
  cases k with
  | refl => exact .inl rfl
  | step k ha _ => have := k.nn hl; have := hl _ ha; unfold AOk at this; right; omega
theorem Wk.rngR {l : List Arc} (hl : ∀ a ∈ l, AOk a) {r v c : Int} (k : Wk l r v c) : v = r ∨ (1 ≤ r ∧ r ≤ 64) := by
  induction k with
  | refl => exact .inl rfl
  | step k ha hu ih =>
    have := hl _ ha
    unfold AOk at this
    right
    rcases ih with h | h
    · omega
    · exact h
/-! ### Rounds over all arcs -/
abbrev DS := (Int → Bool) × (Int → Int)
def rlx (s : DS) (a : Arc) : DS := if s.1 a.f && (!s.1 a.t || decide (s.2 a.f + a.c < s.2 a.t)) then (updF s.1 a.t true, updF s.2 a.t (s.2 a.f + a.c)) else s
def rndD (l : List Arc) (s : DS) : DS := l.foldl rlx s
def satD (l : List Arc) : Nat → DS → DS
  | 0, s => s
  | k + 1, s => satD l k (rndD l s)
theorem satD_fix {l : List Arc} {s : DS} (h : rndD l s = s) : ∀ k, satD l k s = s
  | 0 => rfl
  | k + 1 => by rw [satD, h]; exact satD_fix h k
def ini (r : Int) : DS := (if 1 ≤ r ∧ r ≤ 64 then updF (fun _ => false) r true else fun _ => false, fun _ => 0)
def bfD (l : List Arc) (r : Int) : DS := satD l 65 (ini r)
def isF (l : List Arc) (r v : Int) : Bool := (bfD l r).1 v
def dF (l : List Arc) (r v : Int) : Int := (bfD l r).2 v
def Dom (s : DS) (v c : Int) : Prop := s.1 v = true ∧ s.2 v ≤ c
structure SInv (l : List Arc) (r : Int) (s : DS) : Prop where
  snd : ∀ v, s.1 v = true → Wk l r v (s.2 v)
  rt : s.1 r = true ∧ s.2 r = 0
theorem rlx_inv {l : List Arc} (hl : ∀ a ∈ l, AOk a) {r : Int} {s : DS} {a : Arc} (ha : a ∈ l) (I : SInv l r s) : SInv l r (rlx s a) := by
  unfold rlx
  split
  · rename_i hc
    simp only [Bool.and_eq_true, Bool.or_eq_true, Bool.not_eq_true', decide_eq_true_eq] at hc
    have hw := I.snd _ hc.1
    have hn := hw.nn hl
    have hok := hl a ha
    unfold AOk at hok
    have hr : a.t ≠ r := fun e => by
      rw [e, I.rt.1, I.rt.2] at hc
      rcases hc.2 with h | h
      · cases h
      · omega
    refine ⟨fun v hv => ?_, ?_, ?_⟩
    · by_cases e : v = a.t
      · subst e
        show Wk l r a.t (updF s.2 a.t _ a.t)
        rw [updF_same]
        exact .step hw ha rfl
      · show Wk l r v (updF s.2 a.t _ v)
        rw [updF_ne _ _ e]
        exact I.snd v (by have h2 : updF s.1 a.t true v = true := hv; rwa [updF_ne _ _ e] at h2)
    · show updF s.1 a.t true r = true
      rw [updF_ne _ _ (fun e => hr e.symm)]; exact I.rt.1
    · show updF s.2 a.t _ r = 0
      rw [updF_ne _ _ (fun e => hr e.symm)]; exact I.rt.2
  · exact I
theorem rlx_dom {s : DS} {a : Arc} {v c : Int} (h : Dom s v c) : Dom (rlx s a) v c := by
  unfold rlx
  split
  · rename_i hc
    simp only [Bool.and_eq_true, Bool.or_eq_true, Bool.not_eq_true', decide_eq_true_eq] at hc
    unfold Dom at *
    by_cases e : v = a.t
    · subst e
      simp only [updF_same]
      refine ⟨trivial, ?_⟩
      rcases hc.2 with h2 | h2
      · rw [h.1] at h2; cases h2
      · omega
    · simp only [updF_ne _ _ e]; exact h
  · exact h
theorem rlx_new {s : DS} {a : Arc} (h : s.1 a.f = true) : Dom (rlx s a) a.t (s.2 a.f + a.c) := by
  unfold rlx Dom
  split
  · simp only [updF_same]; exact ⟨trivial, Int.le_refl _⟩
  · rename_i hc
    simp only [Bool.and_eq_true, Bool.or_eq_true, Bool.not_eq_true', decide_eq_true_eq, h, true_and, not_or] at hc
    refine ⟨by simpa using hc.1, by omega⟩
theorem rnd_inv {l : List Arc} (hl : ∀ a ∈ l, AOk a) {r : Int} : ∀ {m : List Arc} {s : DS}, (∀ a ∈ m, a ∈ l) → SInv l r s → SInv l r (rndD m s)
  | [], s, _, I => I
  | a :: m, s, h, I => rnd_inv hl (m := m) (fun b hb => h b (by simp [hb])) (rlx_inv hl (h a (by simp)) I)
theorem rnd_dom {v c : Int} : ∀ {m : List Arc} {s : DS}, Dom s v c → Dom (rndD m s) v c
  | [], _, h => h
  | a :: m, s, h => rnd_dom (m := m) (rlx_dom h)
/-- What is known of a node is the least. -/
def Lst (l : List Arc) (r : Int) (s : DS) (v : Int) : Prop := s.1 v = true ∧ ∀ c, Wk l r v c → s.2 v ≤ c
theorem Lst.dom {l : List Arc} {r : Int} {s : DS} {v c : Int} (h : Lst l r s v) (k : Wk l r v c) : Dom s v c := ⟨h.1, h.2 c k⟩
theorem lst_of {l : List Arc} {r : Int} {s : DS} {v c : Int} (h : Dom s v c) (hm : ∀ e, Wk l r v e → c ≤ e) : Lst l r s v := ⟨h.1, fun e k => by have := hm e k; have := h.2; omega⟩
theorem rnd_lst {l : List Arc} (hl : ∀ a ∈ l, AOk a) {r u : Int} {s : DS} {m : List Arc} (hm : ∀ a ∈ m, a ∈ l) (I : SInv l r s) (h : Lst l r s u) : Lst l r (rndD m s) u :=
  lst_of (rnd_dom (m := m) ⟨h.1, Int.le_refl _⟩) h.2
theorem rnd_new {l : List Arc} (hl : ∀ a ∈ l, AOk a) {r : Int} {a : Arc} : ∀ {m : List Arc} {s : DS}, (∀ b ∈ m, b ∈ l) → SInv l r s → Lst l r s a.f → a ∈ m → Dom (rndD m s) a.t (s.2 a.f + a.c)
  | [], _, _, _, _, h => by simp at h
  | x :: m, s, hm, I, hf, h => by
    have I' := rlx_inv hl (hm x (by simp)) I
    have hf' : Lst l r (rlx s x) a.f := lst_of (rlx_dom ⟨hf.1, Int.le_refl _⟩) hf.2
    have he : (rlx s x).2 a.f = s.2 a.f := by
      have h1 := hf'.2 _ (I.snd _ hf.1)
      have h2 := hf.2 _ (I'.snd _ hf'.1)
      omega
    rcases List.mem_cons.1 h with rfl | h
    · exact rnd_dom (m := m) (rlx_new hf.1)
    · have := rnd_new hl (m := m) (s := rlx s x) (fun b hb => hm b (by simp [hb])) I' hf' h
      rwa [he] at this
/-- The least cost there is. -/
theorem least_int {p : Int → Prop} {c : Int} (h0 : ∀ c, p c → 0 ≤ c) (h : p c) : ∃ c, p c ∧ ∀ e, p e → c ≤ e := by
  have : ∀ (n : Nat) (c : Int), c.toNat ≤ n → p c → ∃ c, p c ∧ ∀ e, p e → c ≤ e := fun n => by
    induction n with
    | zero => intro c hc hp; exact ⟨c, hp, fun e he => by have := h0 e he; have := h0 c hp; omega⟩
    | succ n ih =>
      intro c hc hp
      by_cases hs : ∃ e, p e ∧ e < c
      · obtain ⟨e, he, hlt⟩ := hs
        exact ih e (by have := h0 e he; omega) he
      · exact ⟨c, hp, fun e he => by
          apply Classical.byContradiction
          intro hn
          exact hs ⟨e, he, by omega⟩⟩
  exact this c.toNat c (Nat.le_refl _) h
theorem sat_prog {l : List Arc} (hl : ∀ a ∈ l, AOk a) {r : Int} (h0 : 1 ≤ r) (h1 : r ≤ 64) : ∀ (k : Nat) (s : DS), SInv l r s → ∀ L : List Int, L.Nodup → (∀ u ∈ L, 0 ≤ u ∧ u < 65 ∧ Lst l r s u) → 65 < L.length + k → SInv l r (satD l k s) ∧ ∀ v c, Wk l r v c → Dom (satD l k s) v c
  | 0, s, I, L, hn, hL, hk => by
    have := nodup_len hn (n := 65) (fun x hx => ⟨(hL x hx).1, by have := (hL x hx).2.1; omega⟩)
    omega
  | k + 1, s, I, L, hn, hL, hk => by
    have I' := rnd_inv hl (m := l) (fun a ha => ha) I
    by_cases hd : ∀ v c, Wk l r v c → Dom s v c
    · have hdk : ∀ (j : Nat) (s : DS), SInv l r s → (∀ v c, Wk l r v c → Dom s v c) → SInv l r (satD l j s) ∧ ∀ v c, Wk l r v c → Dom (satD l j s) v c := fun j => by
        induction j with
        | zero => intro s I h; exact ⟨I, h⟩
        | succ j ih => intro s I h; exact ih _ (rnd_inv hl (m := l) (fun a ha => ha) I) (fun v c k => rnd_dom (m := l) (h v c k))
      exact hdk (k + 1) s I hd
    · obtain ⟨c, ⟨v, hk1, hk2⟩, hmin⟩ : ∃ c, (∃ v, Wk l r v c ∧ ¬ Lst l r s v) ∧ ∀ e, (∃ v, Wk l r v e ∧ ¬ Lst l r s v) → c ≤ e := by
        simp only [Classical.not_forall] at hd
        obtain ⟨v, c, k, hnd⟩ := hd
        exact least_int (p := fun c => ∃ v, Wk l r v c ∧ ¬ Lst l r s v) (fun c ⟨v, k, _⟩ => k.nn hl) ⟨v, k, fun h => hnd (h.dom k)⟩
      cases hk1 with
      | refl => exact absurd ⟨I.rt.1, fun e k => by rw [I.rt.2]; exact k.nn hl⟩ hk2
      | @step u e a hu ha hf =>
        have hok := hl a ha
        unfold AOk at hok
        have hlu : Lst l r s u := Classical.byContradiction fun h => by
          have := hmin e ⟨u, hu, h⟩
          omega
        have hlt : Lst l r (rndD l s) a.t := by
          refine lst_of (c := s.2 a.f + a.c) (rnd_new hl (fun b hb => hb) I (by rw [hf]; exact hlu) ha) (fun e' k' => ?_)
          have h2 := hmin e' ⟨a.t, k', hk2⟩
          have h3 := hlu.2 e hu
          rw [hf]
          omega
        refine sat_prog hl h0 h1 k (rndD l s) I' (a.t :: L) (List.nodup_cons.2 ⟨fun h => hk2 (hL _ h).2.2, hn⟩) (fun x hx => ?_) (by simp; omega)
        rcases List.mem_cons.1 hx with rfl | hx
        · exact ⟨by omega, by omega, hlt⟩
        · obtain ⟨a1, a2, a3⟩ := hL x hx
          exact ⟨a1, a2, rnd_lst hl (fun b hb => hb) I a3⟩
theorem bf_all {l : List Arc} (hl : ∀ a ∈ l, AOk a) {r : Int} (h0 : 1 ≤ r) (h1 : r ≤ 64) : SInv l r (bfD l r) ∧ ∀ v c, Wk l r v c → Dom (bfD l r) v c := by
  have I : SInv l r (ini r) := by
    unfold ini
    rw [if_pos ⟨h0, h1⟩]
    refine ⟨fun v hv => ?_, by simp [updF], rfl⟩
    by_cases e : v = r
    · subst e; exact .refl
    · have h2 : updF (fun _ => false) r true v = true := hv
      rw [updF_ne _ _ e] at h2; cases h2
  exact sat_prog hl h0 h1 65 (ini r) I [r] (by simp) (fun u hu => by rw [List.mem_singleton.1 hu]; exact ⟨by omega, by omega, I.rt.1, fun c k => by rw [I.rt.2]; exact k.nn hl⟩) (by simp)
theorem isF_none {l : List Arc} (hl : ∀ a ∈ l, AOk a) {r : Int} (h : ¬ (1 ≤ r ∧ r ≤ 64)) (v : Int) : isF l r v = false := by
  have : ∀ (m : List Arc) (s : DS), s.1 = (fun _ => false) → (rndD m s).1 = fun _ => false := fun m => by
    induction m with
    | nil => intro s h; exact h
    | cons a m ih => intro s h; refine ih _ ?_; unfold rlx; rw [h]; simpa using h
  have : ∀ (k : Nat) (s : DS), s.1 = (fun _ => false) → (satD l k s).1 = fun _ => false := fun k => by
    induction k with
    | zero => intro s h; exact h
    | succ k ih => intro s h; exact ih _ (this l s h)
  unfold isF bfD
  rw [this 65 (ini r) (by unfold ini; rw [if_neg h])]
theorem isF_wk {l : List Arc} (hl : ∀ a ∈ l, AOk a) {r v : Int} (h : isF l r v = true) : Wk l r v (dF l r v) := by
  by_cases hr : 1 ≤ r ∧ r ≤ 64
  · exact (bf_all hl hr.1 hr.2).1.snd v h
  · rw [isF_none hl hr] at h; cases h
theorem wk_isF {l : List Arc} (hl : ∀ a ∈ l, AOk a) {r v c : Int} (hr : 1 ≤ r ∧ r ≤ 64 ∨ v ≠ r) (k : Wk l r v c) : isF l r v = true ∧ dF l r v ≤ c := by
  have hr : 1 ≤ r ∧ r ≤ 64 := by
    rcases hr with hr | hr
    · exact hr
    · rcases k.rngR hl with h | h
      · exact absurd h hr
      · exact h
  exact (bf_all hl hr.1 hr.2).2 v c k
theorem dF_root {l : List Arc} (hl : ∀ a ∈ l, AOk a) {r : Int} (h0 : 1 ≤ r) (h1 : r ≤ 64) : isF l r r = true ∧ dF l r r = 0 := (bf_all hl h0 h1).1.rt
/-- Costs are not too great. -/
def Bd (k : Nat) (s : DS) : Prop := ∀ v, 0 ≤ s.2 v ∧ s.2 v ≤ 1073741824 * (k : Int)
theorem rlx_bd {k : Nat} {s : DS} {a : Arc} (ha : AOk a) (h : Bd k s) : Bd (k + 1) (rlx s a) := by
  intro v
  have h1 := h v
  have h2 := h a.f
  unfold AOk at ha
  unfold rlx
  split
  · show 0 ≤ updF s.2 a.t _ v ∧ updF s.2 a.t _ v ≤ _
    unfold updF
    split <;> omega
  · omega
theorem rnd_bd : ∀ {m : List Arc} {k : Nat} {s : DS}, (∀ a ∈ m, AOk a) → Bd k s → Bd (k + m.length) (rndD m s)
  | [], _, _, _, h => h
  | a :: m, k, s, hm, h => by
    have := rnd_bd (m := m) (fun b hb => hm b (by simp [hb])) (rlx_bd (hm a (by simp)) h)
    rw [List.length_cons, show k + (m.length + 1) = k + 1 + m.length by omega]
    exact this
theorem sat_bd {l : List Arc} (hl : ∀ a ∈ l, AOk a) : ∀ (j : Nat) {k : Nat} {s : DS}, Bd k s → Bd (k + j * l.length) (satD l j s)
  | 0, k, s, h => by rw [Nat.zero_mul]; exact h
  | j + 1, k, s, h => by
    have := sat_bd hl j (rnd_bd hl h)
    rw [Nat.add_mul, Nat.one_mul, show k + (j * l.length + l.length) = k + l.length + j * l.length by omega]
    exact this
theorem dF_range {l : List Arc} (hl : ∀ a ∈ l, AOk a) (hll : l.length ≤ 1000000) (r v : Int) : 0 ≤ dF l r v ∧ dF l r v ≤ 69793218560000000 := by
  have h := sat_bd hl 65 (k := 0) (s := ini r) (fun v => ⟨Int.le_refl _, Int.le_refl _⟩) v
  unfold dF bfD
  omega
/-! ### The first hops of shortest ways -/
theorem Wk.pre {l : List Arc} {r v c : Int} {a : Arc} (ha : a ∈ l) (hf : a.f = r) (k : Wk l a.t v c) : Wk l r v (a.c + c) := by
  have h1 : Wk l r a.t (0 + a.c) := .step .refl ha hf
  rw [Int.zero_add] at h1
  exact h1.trans k
def FH (l : List Arc) (r v w : Int) : Prop := ∃ a ∈ l, a.f = r ∧ a.t = w ∧ ∃ c, Wk l w v c ∧ a.c + c = dF l r v
def IsVia (l : List Arc) (r v w : Int) : Prop := FH l r v w ∧ ∀ x, FH l r v x → w ≤ x
theorem IsVia.eq {l : List Arc} {r v w x : Int} (h : IsVia l r v w) (k : IsVia l r v x) : w = x := by
  have := h.2 x k.1
  have := k.2 w h.1
  omega
theorem fh_arc {l : List Arc} (hl : ∀ a ∈ l, AOk a) {r w v : Int} (h : FH l r v w) (hv : v ≠ r) : ∃ a ∈ l, a.t = v ∧ isF l r a.f = true ∧ dF l r a.f + a.c = dF l r v ∧ (a.f = r ∧ w = v ∨ a.f ≠ r ∧ FH l r a.f w) := by
  obtain ⟨a0, ha0, hf0, ht0, c, k, hc⟩ := h
  have hok0 := hl a0 ha0
  unfold AOk at hok0
  have hroot := dF_root hl (r := r) (by omega) (by omega)
  cases k with
  | refl => exact ⟨a0, ha0, ht0, by rw [hf0]; exact hroot.1, by rw [hf0, hroot.2]; omega, .inl ⟨hf0, rfl⟩⟩
  | @step u e a hu ha hf =>
    have h1 := wk_isF hl (r := r) (.inl (by omega)) (Wk.pre ha0 hf0 (by rw [ht0]; exact hu))
    have h2 := wk_isF hl (r := r) (.inl (by omega)) (Wk.step (isF_wk hl h1.1) ha hf)
    have hok := hl a ha
    have hn := hu.nn hl
    unfold AOk at hok
    have hne : a.f ≠ r := fun e' => by
      rw [hf] at e'
      rw [e', hroot.2] at h2
      omega
    refine ⟨a, ha, rfl, by rw [hf]; exact h1.1, by rw [hf]; omega, .inr ⟨hne, ?_⟩⟩
    rw [hf]
    exact ⟨a0, ha0, hf0, ht0, e, hu, by omega⟩
theorem fh_of {l : List Arc} (hl : ∀ a ∈ l, AOk a) {r w : Int} {a : Arc} (ha : a ∈ l) (hi : isF l r a.f = true) (hd : dF l r a.f + a.c = dF l r a.t) (h : a.f = r ∧ w = a.t ∨ FH l r a.f w) : FH l r a.t w := by
  rcases h with ⟨hf, rfl⟩ | h
  · have hok := hl a ha
    unfold AOk at hok
    have hroot := dF_root hl (r := r) (by omega) (by omega)
    rw [hf, hroot.2] at hd
    exact ⟨a, ha, hf, rfl, 0, .refl, by omega⟩
  · obtain ⟨a0, ha0, hf0, ht0, c, k, hc⟩ := h
    exact ⟨a0, ha0, hf0, ht0, c + a.c, .step k ha rfl, by omega⟩
def viaP (l : List Arc) (r v : Int) (a : Arc) : Bool := a.f == r && (isF l a.t v && (a.c + dF l a.t v == dF l r v))
def viaM (l : List Arc) (r v : Int) : Int := ((l.find? (viaP l r v)).map (·.t)).getD 0
theorem viaP_iff {l : List Arc} (hl : ∀ a ∈ l, AOk a) {r v : Int} {a : Arc} (ha : a ∈ l) : viaP l r v a = true ↔ a.f = r ∧ ∃ c, Wk l a.t v c ∧ a.c + c = dF l r v := by
  simp only [viaP, Bool.and_eq_true, beq_iff_eq]
  have hok := hl a ha
  unfold AOk at hok
  constructor
  · rintro ⟨h1, h2, h3⟩
    exact ⟨h1, _, isF_wk hl h2, h3⟩
  · rintro ⟨h1, c, k, hc⟩
    have h2 := wk_isF hl (r := a.t) (.inl (by omega)) k
    have h3 := wk_isF hl (r := r) (.inl (by omega)) (Wk.pre ha h1 (isF_wk hl h2.1))
    exact ⟨h1, h2.1, by omega⟩
theorem viaM_is {l : List Arc} (hl : ∀ a ∈ l, AOk a) (hs : l.Pairwise ltA) {r v w : Int} (h : FH l r v w) : IsVia l r v (viaM l r v) := by
  obtain ⟨a0, ha0, hf0, ht0, hc0⟩ := h
  have hp0 : viaP l r v a0 = true := (viaP_iff hl ha0).2 ⟨hf0, by rw [ht0]; exact hc0⟩
  unfold viaM
  cases hfi : l.find? (viaP l r v) with
  | none => have := List.find?_eq_none.1 hfi a0 ha0; exact absurd hp0 this
  | some a =>
    have ham := List.mem_of_find?_eq_some hfi
    obtain ⟨h1, h2⟩ := (viaP_iff hl ham).1 (List.find?_some hfi)
    refine ⟨⟨a, ham, h1, rfl, h2⟩, fun x hx => ?_⟩
    obtain ⟨b, hb, hbf, hbt, hbc⟩ := hx
    have hpb : viaP l r v b = true := (viaP_iff hl hb).2 ⟨hbf, by rw [hbt]; exact hbc⟩
    show a.t ≤ x
    rw [← hbt]
    obtain ⟨_, l1, l2, hlas, hno⟩ := List.find?_eq_some_iff_append.1 hfi
    rw [hlas] at hb hs
    rcases List.mem_append.1 hb with hb | hb
    · have := hno b hb; simp [hpb] at this
    · rcases List.mem_cons.1 hb with rfl | hb
      · exact Int.le_refl _
      · have := (List.pairwise_cons.1 (List.pairwise_append.1 hs).2.1).1 b hb
        unfold ltA at this
        omega
/-- A node that is reached, and is not the root, has a first hop. -/
theorem fh_ex {l : List Arc} (hl : ∀ a ∈ l, AOk a) {r v : Int} (h : isF l r v = true) (hv : v ≠ r) : ∃ w, FH l r v w := by
  have key : ∀ {v c : Int}, Wk l r v c → v ≠ r → c = dF l r v → ∃ w, FH l r v w := fun {v c} k => by
    induction k with
    | refl => intro h _; exact absurd rfl h
    | @step u e a hu ha hf ih =>
      intro hne hc
      have hok := hl a ha
      unfold AOk at hok
      by_cases e' : u = r
      · refine ⟨a.t, a, ha, by omega, rfl, 0, .refl, ?_⟩
        have h0 := dF_root hl (r := r) (by omega) (by omega)
        have h1 := wk_isF hl (r := r) (.inl (by omega)) hu
        have h2 := wk_isF hl (r := r) (.inl (by omega)) (Wk.step (isF_wk hl h0.1) ha (by omega))
        have hn := hu.nn hl
        omega
      · have hrr : 1 ≤ r ∧ r ≤ 64 := by
          rcases hu.rngR hl with h | h
          · exact absurd h e'
          · exact h
        have h1 := wk_isF hl (r := r) (.inl hrr) hu
        have h2 := wk_isF hl (r := r) (.inl hrr) (Wk.step (isF_wk hl h1.1) ha hf)
        obtain ⟨w, hw⟩ := ih e' (by omega)
        exact ⟨w, fh_of hl ha (by rw [hf]; exact h1.1) (by rw [hf]; omega) (.inr (by rw [hf]; exact hw))⟩
  exact key (isF_wk hl h) hv rfl
def routesM (l : List Arc) (r : Int) : List Rt := (((List.range 65).map fun (i : Nat) => (i : Int)).filter fun v => decide (v ≠ r) && isF l r v).map fun v => ⟨v, viaM l r v, dF l r v⟩
/-! ### The nearest one next -/
def leV (c v c' v' : Int) : Prop := c < c' ∨ c = c' ∧ v ≤ v'
/-- A route's end by an arc from a node that is done. -/
def hopV (r : Int) (known : Int → Option (Int × Int)) (a : Arc) : Int := if a.f = r then a.t else ((known a.f).getD (0, 0)).1
def hopC (r : Int) (known : Int → Option (Int × Int)) (a : Arc) : Int := if a.f = r then a.c else ((known a.f).getD (0, 0)).2 + a.c
structure DInv (l : List Arc) (r : Int) (known : Int → Option (Int × Int)) (done : Int → Bool) (hp : List (Int × Int)) (pend : Arc → Prop) : Prop where
  k1 : ∀ v p, known v = some p → v ≠ r ∧ ∃ a ∈ l, done a.f = true ∧ a.t = v ∧ p = (hopV r known a, hopC r known a)
  d1 : ∀ u, done u = true → u = r ∨ known u = some (viaM l r u, dF l r u) ∧ isF l r u = true
  d2 : ∀ a ∈ l, done a.f = true → a.t ≠ r → ¬ pend a → ∃ p, known a.t = some p ∧ leV p.2 p.1 (hopC r known a) (hopV r known a)
  h1 : ∀ v p, known v = some p → done v = false → (p.2, v) ∈ hp
  hr : done r = false → (0, r) ∈ hp
  h2 : ∀ c v, (c, v) ∈ hp → v = r ∨ ∃ p, known v = some p ∧ p.2 ≤ c
theorem dinv_new (l : List Arc) (r : Int) : DInv l r (fun _ => none) (fun _ => false) [(0, r)] (fun _ => False) where
  k1 := fun v p h => by cases h
  d1 := fun u h => by cases h
  d2 := fun a _ h => by cases h
  h1 := fun v p h => by cases h
  hr := fun _ => by simp
  h2 := fun c v h => by simp at h; exact .inl h.2
theorem DInv.hop {l : List Arc} {r : Int} {known : Int → Option (Int × Int)} {done : Int → Bool} {hp : List (Int × Int)} {pend : Arc → Prop} (hl : ∀ a ∈ l, AOk a) (I : DInv l r known done hp pend) {a : Arc} (ha : a ∈ l) (hd : done a.f = true) :
    isF l r a.f = true ∧ hopC r known a = dF l r a.f + a.c ∧ (a.f = r ∧ hopV r known a = a.t ∨ a.f ≠ r ∧ hopV r known a = viaM l r a.f) := by
  have hok := hl a ha
  unfold AOk at hok
  unfold hopC hopV
  by_cases e : a.f = r
  · have h0 := dF_root hl (r := r) (by omega) (by omega)
    rw [if_pos e, if_pos e, e, h0.2, Int.zero_add]
    exact ⟨h0.1, rfl, .inl ⟨rfl, rfl⟩⟩
  · rcases I.d1 _ hd with h | ⟨h, h3⟩
    · exact absurd h e
    · rw [if_neg e, if_neg e, h]
      exact ⟨h3, rfl, .inr ⟨e, rfl⟩⟩
theorem DInv.snd {l : List Arc} {r : Int} {known : Int → Option (Int × Int)} {done : Int → Bool} {hp : List (Int × Int)} {pend : Arc → Prop} (hl : ∀ a ∈ l, AOk a) (I : DInv l r known done hp pend) {v : Int} {p : Int × Int} (h : known v = some p) : Wk l r v p.2 ∧ 1 ≤ v ∧ v ≤ 64 ∧ (dF l r v = p.2 → FH l r v p.1) := by
  obtain ⟨hne, a, ha, hd, rfl, rfl⟩ := I.k1 v p h
  obtain ⟨h1, h2, h3⟩ := I.hop hl ha hd
  have hok := hl a ha
  unfold AOk at hok
  refine ⟨?_, by omega, by omega, fun e => ?_⟩
  · show Wk l r a.t (hopC r known a)
    rw [h2]
    exact .step (isF_wk hl h1) ha rfl
  · refine fh_of hl ha h1 (by rw [← h2]; exact e.symm) ?_
    rcases h3 with ⟨e1, e2⟩ | ⟨e1, e2⟩
    · exact .inl ⟨e1, e2⟩
    · right
      show FH l r a.f (hopV r known a)
      rw [e2]
      obtain ⟨w, hw⟩ := fh_ex hl h1 e1
      rcases I.d1 _ hd with h | ⟨hk, _⟩
      · exact absurd h e1
      · -- the via of a node that is done
        have : ∃ w, FH l r a.f w := ⟨w, hw⟩
        obtain ⟨a0, ha0, hf0, ht0, hc0⟩ := hw
        have hp0 : viaP l r a.f a0 = true := (viaP_iff hl ha0).2 ⟨hf0, by rw [ht0]; exact hc0⟩
        unfold viaM
        cases hfi : l.find? (viaP l r a.f) with
        | none => have := List.find?_eq_none.1 hfi a0 ha0; exact absurd hp0 this
        | some b =>
          have hbm := List.mem_of_find?_eq_some hfi
          obtain ⟨g1, g2⟩ := (viaP_iff hl hbm).1 (List.find?_some hfi)
          exact ⟨b, hbm, g1, rfl, g2⟩
theorem DInv.front {l : List Arc} {r : Int} {known : Int → Option (Int × Int)} {done : Int → Bool} {hp : List (Int × Int)} (hl : ∀ a ∈ l, AOk a) (I : DInv l r known done hp (fun _ => False)) {x e : Int} (k : Wk l r x e) (hx : done x = false) : ∃ c y, (c, y) ∈ hp ∧ c ≤ e := by
  induction k with
  | refl => exact ⟨0, r, I.hr hx, Int.le_refl _⟩
  | @step u e' a hu ha hf ih =>
    have hok := hl a ha
    unfold AOk at hok
    cases hd : done u with
    | false =>
      obtain ⟨c, y, h1, h2⟩ := ih hd
      exact ⟨c, y, h1, by omega⟩
    | true =>
      by_cases hr : a.t = r
      · rw [hr] at hx
        exact ⟨0, r, I.hr hx, by have := hu.nn hl; omega⟩
      · obtain ⟨p, h1, h2⟩ := I.d2 a ha (by rw [hf]; exact hd) hr (fun h => h)
        obtain ⟨h3, h4, _⟩ := I.hop hl ha (by rw [hf]; exact hd)
        refine ⟨p.2, a.t, I.h1 _ _ h1 hx, ?_⟩
        have h5 := wk_isF hl (r := r) (by rcases hu.rngR hl with h | h; exact .inl ⟨by omega, by omega⟩; exact .inl h) hu
        rw [hf] at h4
        unfold leV at h2
        omega
/-- The nearest one is taken: what is known of it is final. -/
theorem DInv.fin {l : List Arc} {r : Int} {known : Int → Option (Int × Int)} {done : Int → Bool} {hp : List (Int × Int)} (hl : ∀ a ∈ l, AOk a) (hs : l.Pairwise ltA) (I : DInv l r known done hp (fun _ => False)) {c n : Int} (hm : (c, n) ∈ hp) (hmin : ∀ e ∈ hp, c ≤ e.1) (hd : done n = false) (hn : n ≠ r) : known n = some (viaM l r n, dF l r n) ∧ isF l r n = true := by
  rcases I.h2 c n hm with h | ⟨p, hk, hp2⟩
  · exact absurd h hn
  · obtain ⟨hw, _, _, hfh⟩ := I.snd hl hk
    have h1 := wk_isF hl (.inr hn) hw
    obtain ⟨ce, y, hy, hce⟩ := I.front hl (isF_wk hl h1.1) hd
    have h2 := hmin _ hy
    have hpe : dF l r n = p.2 := by simp only at h2; omega
    have hv : p.1 = viaM l r n := by
      have hF := hfh hpe
      refine IsVia.eq ⟨hF, fun x hx => ?_⟩ (viaM_is hl hs hF)
      obtain ⟨a, ha, ht, hi, hda, hcase⟩ := fh_arc hl hx hn
      have hok := hl a ha
      unfold AOk at hok
      have hdone : done a.f = true := by
        cases hdf : done a.f with
        | true => rfl
        | false =>
          obtain ⟨c2, y2, hy2, hce2⟩ := I.front hl (isF_wk hl hi) hdf
          have := hmin _ hy2
          simp only at this
          omega
      obtain ⟨q, hq1, hq2⟩ := I.d2 a ha hdone (by rw [ht]; exact hn) (fun h => h)
      rw [ht, hk] at hq1
      cases hq1
      obtain ⟨_, h4, h5⟩ := I.hop hl ha hdone
      have hvx : hopV r known a ≤ x := by
        rcases h5 with ⟨e1, e2⟩ | ⟨e1, e2⟩
        · rcases hcase with ⟨_, e3⟩ | ⟨e3, _⟩
          · omega
          · exact absurd e1 e3
        · rcases hcase with ⟨e3, _⟩ | ⟨_, e3⟩
          · exact absurd e3 e1
          · have := (viaM_is hl hs e3).2 x e3
            omega
      unfold leV at hq2
      omega
    refine ⟨?_, h1.1⟩
    rw [hk, hpe, ← hv]
/-- One is taken that was done. -/
theorem DInv.old {l : List Arc} {r : Int} {known : Int → Option (Int × Int)} {done : Int → Bool} {hp hp' : List (Int × Int)} {pend : Arc → Prop} (I : DInv l r known done hp pend) {c n : Int} (hpm : hp.Perm ((c, n) :: hp')) (hd : done n = true) : DInv l r known done hp' pend where
  k1 := I.k1
  d1 := I.d1
  d2 := I.d2
  h1 := fun v p h1 h2 => by
    rcases List.mem_cons.1 (hpm.mem_iff.1 (I.h1 v p h1 h2)) with h | h
    · cases h; rw [hd] at h2; cases h2
    · exact h
  hr := fun h2 => by
    rcases List.mem_cons.1 (hpm.mem_iff.1 (I.hr h2)) with h | h
    · cases h; rw [hd] at h2; cases h2
    · exact h
  h2 := fun c v h => I.h2 c v (hpm.mem_iff.2 (by simp [h]))
/-- The nearest one is done. -/
theorem DInv.take {l : List Arc} {r : Int} {known : Int → Option (Int × Int)} {done : Int → Bool} {hp hp' : List (Int × Int)} (hl : ∀ a ∈ l, AOk a) (hs : l.Pairwise ltA) (I : DInv l r known done hp (fun _ => False)) {c n : Int} (hpm : hp.Perm ((c, n) :: hp')) (hmin : ∀ e ∈ hp, c ≤ e.1) (hd : done n = false) : DInv l r known (updF done n true) hp' (fun a => a.f = n) := by
  have hne : ∀ v, updF done n true v = false → v ≠ n ∧ done v = false := fun v h => by
    by_cases e : v = n
    · subst e; rw [updF_same] at h; cases h
    · rw [updF_ne _ _ e] at h; exact ⟨e, h⟩
  have hup : ∀ v, done v = true → updF done n true v = true := fun v h => by
    by_cases e : v = n
    · subst e; exact updF_same _ _ _
    · rw [updF_ne _ _ e]; exact h
  refine ⟨fun v p h => ?_, fun u h => ?_, fun a ha h ht hp => ?_, fun v p h1 h2 => ?_, fun h2 => ?_, fun c v h => I.h2 c v (hpm.mem_iff.2 (by simp [h]))⟩
  · obtain ⟨h1, a, ha, h2, h3⟩ := I.k1 v p h
    exact ⟨h1, a, ha, hup _ h2, h3⟩
  · by_cases e : u = n
    · subst e
      by_cases hr : u = r
      · exact .inl hr
      · exact .inr (I.fin hl hs (hpm.mem_iff.2 (by simp)) hmin hd hr)
    · rw [updF_ne _ _ e] at h; exact I.d1 u h
  · rw [updF_ne _ _ hp] at h
    exact I.d2 a ha h ht (fun h => h)
  · obtain ⟨e, h3⟩ := hne v h2
    rcases List.mem_cons.1 (hpm.mem_iff.1 (I.h1 v p h1 h3)) with h | h
    · cases h; exact absurd rfl e
    · exact h
  · obtain ⟨e, h3⟩ := hne r h2
    rcases List.mem_cons.1 (hpm.mem_iff.1 (I.hr h3)) with h | h
    · cases h; exact absurd rfl e
    · exact h
/-- What is known when an arc from the node that is done last is looked at. -/
theorem DInv.skip {l : List Arc} {r : Int} {known : Int → Option (Int × Int)} {done : Int → Bool} {hp : List (Int × Int)} {pend pend' : Arc → Prop} (hl : ∀ a ∈ l, AOk a) (hs : l.Pairwise ltA) (I : DInv l r known done hp pend) {a : Arc} (hpe : ∀ b, pend b → pend' b ∨ b = a) (hsk : a.t = r ∨ done a.t = true) : DInv l r known done hp pend' := by
  refine ⟨I.k1, I.d1, fun b hb h ht hp => ?_, I.h1, I.hr, I.h2⟩
  by_cases e : pend b
  · rcases hpe b e with h' | rfl
    · exact absurd h' hp
    · rcases hsk with h' | h'
      · exact absurd h' ht
      · rcases I.d1 _ h' with h'' | ⟨hk, hi⟩
        · exact absurd h'' ht
        · obtain ⟨h1, h2, h3⟩ := I.hop hl hb h
          refine ⟨_, hk, ?_⟩
          have h4 := wk_isF hl (.inr ht) (Wk.step (isF_wk hl h1) hb rfl)
          unfold leV
          rw [h2]
          by_cases heq : dF l r b.t = dF l r b.f + b.c
          · right
            refine ⟨heq, ?_⟩
            obtain ⟨w, hw⟩ := fh_ex hl hi ht
            refine (viaM_is hl hs hw).2 _ (fh_of hl hb h1 heq.symm ?_)
            rcases h3 with ⟨e1, e2⟩ | ⟨e1, e2⟩
            · exact .inl ⟨e1, e2⟩
            · right
              rw [e2]
              obtain ⟨w, hw⟩ := fh_ex hl h1 e1
              exact (viaM_is hl hs hw).1
          · left
            show dF l r b.t < _
            omega
  · exact I.d2 b hb h ht e
/-- What is known is no worse. -/
theorem DInv.keep {l : List Arc} {r : Int} {known : Int → Option (Int × Int)} {done : Int → Bool} {hp : List (Int × Int)} {pend pend' : Arc → Prop} (I : DInv l r known done hp pend) {a : Arc} (hpe : ∀ b, pend b → pend' b ∨ b = a) {p : Int × Int} (hk : known a.t = some p) (hle : leV p.2 p.1 (hopC r known a) (hopV r known a)) : DInv l r known done hp pend' := by
  refine ⟨I.k1, I.d1, fun b hb h ht hp => ?_, I.h1, I.hr, I.h2⟩
  by_cases e : pend b
  · rcases hpe b e with h' | rfl
    · exact absurd h' hp
    · exact ⟨p, hk, hle⟩
  · exact I.d2 b hb h ht e
/-- What is known is worse, or nothing. -/
theorem DInv.put {l : List Arc} {r : Int} {known : Int → Option (Int × Int)} {done : Int → Bool} {hp hp' : List (Int × Int)} {pend pend' : Arc → Prop} (I : DInv l r known done hp pend) {a : Arc} (ha : a ∈ l) (hd : done a.f = true) (hpe : ∀ b, pend b → pend' b ∨ b = a) (hsk : a.t ≠ r) (hnd : done a.t = false)
    (hle : ∀ p, known a.t = some p → leV (hopC r known a) (hopV r known a) p.2 p.1) (hin : ∀ e ∈ hp, e ∈ hp') (hnew : (hopC r known a, a.t) ∈ hp') (hall : ∀ e ∈ hp', e ∈ hp ∨ e = (hopC r known a, a.t)) : DInv l r (updF known a.t (some (hopV r known a, hopC r known a))) done hp' pend' := by
  have hsame : ∀ b : Arc, done b.f = true → hopV r (updF known a.t (some (hopV r known a, hopC r known a))) b = hopV r known b ∧ hopC r (updF known a.t (some (hopV r known a, hopC r known a))) b = hopC r known b := fun b hb => by
    have hne : b.f ≠ a.t := fun e => by rw [e, hnd] at hb; cases hb
    unfold hopV hopC
    rw [updF_ne _ _ hne]
    exact ⟨rfl, rfl⟩
  refine ⟨fun v p h => ?_, fun u h => ?_, fun b hb h ht hp => ?_, fun v p h1 h2 => ?_, fun h => hin _ (I.hr h), fun c v h => ?_⟩
  · by_cases e : v = a.t
    · subst e
      rw [updF_same] at h
      cases h
      exact ⟨hsk, a, ha, hd, rfl, by rw [(hsame a hd).1, (hsame a hd).2]⟩
    · rw [updF_ne _ _ e] at h
      obtain ⟨h1, b, hb, h2, h3, h4⟩ := I.k1 v p h
      exact ⟨h1, b, hb, h2, h3, by rw [(hsame b h2).1, (hsame b h2).2]; exact h4⟩
  · have hne : u ≠ a.t := fun e => by rw [e, hnd] at h; cases h
    rw [updF_ne _ _ hne]
    exact I.d1 u h
  · rw [(hsame b h).1, (hsame b h).2]
    by_cases et : b.t = a.t
    · rw [et, updF_same]
      refine ⟨_, rfl, ?_⟩
      by_cases e : pend b
      · rcases hpe b e with h' | rfl
        · exact absurd h' hp
        · exact .inr ⟨rfl, Int.le_refl _⟩
      · obtain ⟨p, hk, hq⟩ := I.d2 b hb h ht e
        rw [et] at hk
        have := hle p hk
        unfold leV at *
        simp only
        omega
    · rw [updF_ne _ _ et]
      by_cases e : pend b
      · rcases hpe b e with h' | rfl
        · exact absurd h' hp
        · exact absurd rfl et
      · exact I.d2 b hb h ht e
  · by_cases e : v = a.t
    · subst e
      rw [updF_same] at h1
      cases h1
      exact hnew
    · rw [updF_ne _ _ e] at h1
      exact hin _ (I.h1 v p h1 h2)
  · rcases hall _ h with h | h
    · rcases I.h2 c v h with h | ⟨p, h1, h2⟩
      · exact .inl h
      · right
        by_cases e : v = a.t
        · subst e
          rw [updF_same]
          refine ⟨_, rfl, ?_⟩
          have := hle p h1
          unfold leV at this
          simp only
          omega
        · rw [updF_ne _ _ e]; exact ⟨p, h1, h2⟩
    · cases h
      right
      rw [updF_same]
      exact ⟨_, rfl, Int.le_refl _⟩
/-- All is done: what is known is what there is. -/
theorem DInv.done {l : List Arc} {r : Int} {known : Int → Option (Int × Int)} {done : Int → Bool} (hl : ∀ a ∈ l, AOk a) (I : DInv l r known done [] (fun _ => False)) (v : Int) : known v = if v ≠ r ∧ isF l r v = true then some (viaM l r v, dF l r v) else none := by
  have hall : ∀ v p, known v = some p → done v = true := fun v p h => by
    cases hd : done v with
    | true => rfl
    | false => have := I.h1 v p h hd; simp at this
  cases hk : known v with
  | some p =>
    obtain ⟨hne, _⟩ := I.k1 v p hk
    rcases I.d1 v (hall v p hk) with h | ⟨h1, h2⟩
    · exact absurd h hne
    · rw [if_pos ⟨hne, h2⟩, ← h1, hk]
  | none =>
    split
    · rename_i h
      exfalso
      cases hd : done v with
      | true =>
        rcases I.d1 v hd with e | ⟨h1, _⟩
        · exact h.1 e
        · rw [hk] at h1; cases h1
      | false =>
        obtain ⟨c, y, hy, _⟩ := I.front hl (isF_wk hl h.2) hd
        simp at hy
    · rfl
end A
end Go.Proofs.Ytmcannmjielalaa
set_option linter.unusedVariables false
set_option linter.unusedSimpArgs false
namespace Go.Proofs.Ytmcannmjielalaa
namespace A
theorem el_261 : elemOf Try.prog 261 = some (162, 2, 16) := by kernel_rfl
theorem es_261 : elemSize Try.prog 261 = some 2 := by kernel_rfl
theorem fd_162_0 : fieldOf Try.prog 162 0 = some (0, 1, false) := by kernel_rfl
theorem fd_162_1 : fieldOf Try.prog 162 1 = some (1, 1, false) := by kernel_rfl
theorem fd_263_0 : fieldOf Try.prog 263 0 = some (0, 1, false) := by kernel_rfl
theorem pt_159 : isPtrT Try.prog 159 = true := by kernel_rfl
theorem sl_261 : isSl Try.prog 261 = true := by kernel_rfl
theorem ty_162 : tyOf Try.prog 162 = some (2, true) := by kernel_rfl
theorem ty_261 : tyOf Try.prog 261 = some (1, false) := by kernel_rfl
theorem ty_37 : tyOf Try.prog 37 = some (1, false) := by kernel_rfl
theorem us_261 : Try.prog.underlying 261 = some (.slice 162) := by kernel_rfl
theorem ze_162 : zeroOf Try.prog 162 = some (.agg #[.int .u64 0, .int .i64 0]) := by kernel_rfl
def spC (p : Int × Int) : List AV := [.v (.int .u64 p.1), .int p.2]
/- cost.Far -/
set_option maxRecDepth 100000 in
set_option maxHeartbeats 400000 in
theorem cost_Far  : Triple Try.prog 226 [] [] (Is (.v (.int .u64 18446744073709551615)) []) := by
  refine triple_of Try.func226 rfl (by kernel_rfl) rfl (by simp) ?_
  refine aSeq ?_
  refine aReg ?_
  refine sp pMa ?_
  refine oNil ?_
  refine aSeq ?_
  refine aReg ?_
  refine sp pMa ?_
  refine oNil ?_
  refine aRet ?_
  refine finIs rfl ?_
  rfl
/- cost.Add -/
set_option maxRecDepth 100000 in
set_option maxHeartbeats 400000 in
theorem cost_Add {a b : Int} (ha : 0 ≤ a) (hb : 0 ≤ b) (ha2 : a ≤ 18446744073709551615) (hb2 : b ≤ 18446744073709551615) : Triple Try.prog 135 [.v (.int .u64 a), .v (.int .u64 b)] [] (Is (.v (.int .u64 (if a > 18446744073709551615 - b then 18446744073709551615 else a + b))) []) := by
  refine triple_of Try.func135 rfl (by kernel_rfl) rfl (by simp) ?_
  refine aSeq ?_
  refine aReg ?_
  refine sp pMa ?_
  refine oNil ?_
  refine aSeq ?_
  refine aSeq ?_
  refine aReg ?_
  refine sp pM ?_
  refine sq ?_
  refine cv rfl rfl rfl (lents_refl _) cost_Far ?_
  refine sp pM ?_
  refine sp (by first | exact pSuK | exact pB) ?_
  refine sp pB ?_
  refine oNil ?_
  refine aCondDec rfl (fun c9 => ?_) (fun c9 => ?_)
  · skip
    refine aSeq ?_
    refine aReg ?_
    refine sq ?_
    refine cv rfl rfl rfl (lents_refl _) cost_Far ?_
    refine sp pMa ?_
    refine oNil ?_
    refine aRet ?_
    refine finIs rfl ?_
    rw [if_pos (by assumption)]
    rfl
  · skip
    refine aSkip ?_
    refine aSeq ?_
    refine aReg ?_
    refine sp pM ?_
    refine sp pM ?_
    refine sp (by first | exact pAdK | exact pB) ?_
    refine sp pMa ?_
    refine oNil ?_
    refine aRet ?_
    refine finIs rfl ?_
    rw [if_neg (by assumption)]
    rfl
/- cost.Less -/
set_option maxRecDepth 100000 in
set_option maxHeartbeats 400000 in
theorem cost_Less {a b : Int × Int} : Triple Try.prog 266 [.agg (spC a), .agg (spC b)] [] (Is (.v (.bool (lessS a b))) []) := by
  refine triple_of Try.func266 rfl (by kernel_rfl) rfl (by simp) ?_
  refine aSeq ?_
  refine aReg ?_
  refine sq ?_
  refine qBox rfl rfl (by decide) rfl rfl (fun b2 => ?_)
  refine sq ?_
  refine qBox rfl rfl (by decide) rfl rfl (fun b3 => ?_)
  refine sp pMa ?_
  refine oNil ?_
  refine aSeq ?_
  refine aSeq ?_
  refine aReg ?_
  refine sp (pFb fd_162_0) ?_
  refine sr (rB1 ty_37) ?_
  refine sp (pFb fd_162_0) ?_
  refine sr (rB1 ty_37) ?_
  refine sp pB ?_
  refine oNil ?_
  refine aCondNe rfl (fun c9 => ?_) (fun c9 => ?_)
  · skip
    refine aSeq ?_
    refine aReg ?_
    refine sp (pFb fd_162_0) ?_
    refine sr (rB1 ty_37) ?_
    refine sp (pFb fd_162_0) ?_
    refine sr (rB1 ty_37) ?_
    refine sp pB ?_
    refine sp pMa ?_
    refine oNil ?_
    refine aRet ?_
    refine finIs rfl ?_
    unfold lessS
    rw [if_pos (by assumption)]
    rfl
  · skip
    refine aSkip ?_
    refine aSeq ?_
    refine aReg ?_
    refine sp (pFb fd_162_1) ?_
    refine sr (rB1 ty_3) ?_
    refine sp (pFb fd_162_1) ?_
    refine sr (rB1 ty_3) ?_
    refine sp pB ?_
    refine sp pMa ?_
    refine oNil ?_
    refine aRet ?_
    refine finIs rfl ?_
    unfold lessS
    rw [if_neg (by omega)]
    rfl
/- heap.Heap).Put -/
def heap_Put_r2_T : Bool × List (List Nat × List Nat) := (true, [([], []), ([], []), ([1], [1]), ([2], [2]), ([3], [3]), ([], []), ([5], [5]), ([4, 6], [4, 6]), ([0, 0, 1, 2, 3, 4, 5, 6, 7], [0]), ([8, 0, 1, 2, 3, 4, 5, 6, 7], [8]), ([9, 7, 7, 0, 1, 2, 3, 4, 5, 6, 7], [7, 9])])
def heap_Put_r2_B : List Nat := [0, 0, 2, 6, 14, 0, 32, 126, 255, 511, 1023]
theorem heap_Put_r2_t : Go.Proofs.YtmcannmjielalaaW.PrintLast.rtab .any (Go.Proofs.YtmcannmjielalaaW.PrintLast.opsOf Try.f219 2) = heap_Put_r2_T := by kernel_rfl
theorem heap_Put_r2_b : Go.Proofs.YtmcannmjielalaaW.PrintLast.waitsOk heap_Put_r2_T.2 heap_Put_r2_B = true := by kernel_rfl
def heap_Put_r6_T : Bool × List (List Nat × List Nat) := (true, [([], []), ([0], [0]), ([1], [1]), ([2], [2]), ([], []), ([3, 4], [3, 4]), ([5], [5]), ([], []), ([7], [7]), ([8], [8]), ([9], [9]), ([], []), ([10, 11], [10, 11]), ([12], [12]), ([6, 13], [6, 13]), ([14], [14])])
def heap_Put_r6_B : List Nat := [0, 1, 3, 7, 0, 31, 63, 0, 128, 384, 896, 0, 3968, 8064, 16383, 32767]
theorem heap_Put_r6_t : Go.Proofs.YtmcannmjielalaaW.PrintLast.rtab .any (Go.Proofs.YtmcannmjielalaaW.PrintLast.opsOf Try.f219 6) = heap_Put_r6_T := by kernel_rfl
theorem heap_Put_r6_b : Go.Proofs.YtmcannmjielalaaW.PrintLast.waitsOk heap_Put_r6_T.2 heap_Put_r6_B = true := by kernel_rfl
def heap_Put_r7_T : Bool × List (List Nat × List Nat) := (true, [([], []), ([0], [0]), ([1], [1]), ([2], [2]), ([], []), ([], []), ([5], [5]), ([6], [6]), ([7], [7]), ([], []), ([], []), ([10], [10]), ([11], [11]), ([12], [12]), ([], []), ([13, 14], [13, 14]), ([15], [15]), ([], []), ([17], [17]), ([18], [18]), ([19], [19]), ([], []), ([20, 21], [20, 21]), ([22], [22]), ([3, 4, 0, 1, 2, 3, 4, 8, 10, 11, 12, 13, 14, 15, 16, 20, 23], [3, 4]), ([24, 16, 0, 1, 2, 3, 4, 8, 10, 11, 12, 13, 14, 15, 16, 20, 23], [16, 24]), ([8, 9, 0, 1, 2, 3, 4, 5, 6, 7, 8, 9, 10, 11, 12, 13, 14, 15, 16, 17, 18, 19, 20, 21, 22, 23, 24, 25], [8, 9]), ([26, 23, 25, 0, 1, 2, 3, 4, 5, 6, 7, 8, 9, 10, 11, 12, 13, 14, 15, 16, 17, 18, 19, 20, 21, 22, 23, 24, 25], [23, 26])])
def heap_Put_r7_B : List Nat := [0, 1, 3, 7, 0, 0, 32, 96, 224, 0, 0, 1024, 3072, 7168, 0, 31744, 64512, 0, 131072, 393216, 917504, 0, 4063232, 8257536, 16776703, 33553919, 67108863, 134217727]
theorem heap_Put_r7_t : Go.Proofs.YtmcannmjielalaaW.PrintLast.rtab .any (Go.Proofs.YtmcannmjielalaaW.PrintLast.opsOf Try.f219 7) = heap_Put_r7_T := by kernel_rfl
theorem heap_Put_r7_b : Go.Proofs.YtmcannmjielalaaW.PrintLast.waitsOk heap_Put_r7_T.2 heap_Put_r7_B = true := by kernel_rfl
set_option maxRecDepth 100000 in
set_option maxHeartbeats 2000000 in
theorem heap_Put (hb : Nat) (g : Option Nat) (c : Nat) (l : List (Int × Int)) (s : Int × Int) (hk : HeapOk l) (hll : l.length ≤ 10000000) : Triple Try.prog 219 [(.v (.pointer (some ⟨hb, 0, none⟩))), .agg (spC s)] [.box hb [.v (slV g l.length c)], .sl g c 162 2 (l.map spC)] (fun r h' => ∃ g' c' l', r = .tup [] ∧ h' = [.box hb [.v (slV g' l'.length c')], .sl g' c' 162 2 (l'.map spC)] ∧ HeapOk l' ∧ l'.Perm (l ++ [s])) := by
  refine triple_of Try.func219 rfl (by kernel_rfl) rfl (by simp) ?_
  refine aSeq ?_
  refine aReg ?_
  refine sq ?_
  refine qBox rfl rfl (by decide) rfl rfl (fun b3 => ?_)
  refine oNil ?_
  refine aSeq ?_
  refine aSeq ?_
  refine aReg ?_
  refine sp pM ?_
  refine sp (by first | exact pPtrNil rfl (.inl rfl) rfl pt_159 rfl rfl | exact pSpNil rfl (.inl rfl) rfl pt_159 rfl) ?_
  refine oNil ?_
  refine aCondF rfl ?_
  refine aSkip ?_
  refine aSeq ?_
  refine aDrawT heap_Put_r2_t heap_Put_r2_b [7, 10] 11 #[false, false, false, false, false, false, false, false, false, false, false] (by kernel_rfl) rfl rfl (fun HT => ?_)
  refine dp HT 0 rfl pM ?_
  refine dp HT 1 rfl pM ?_
  refine dp HT 2 rfl pNv ?_
  refine dp HT 3 rfl (pFb fd_263_0) ?_
  refine dr HT 4 rfl (rB1 ty_261) ?_
  refine dr HT 5 rfl (by first | exact rBWa ty_162 | exact rBW ty_162 | exact rBA ty_162) ?_
  refine dGo ?_
  refine e1 HT 6 rfl ?_
  refine qLit (l := [_]) rfl rfl (by decide) us_261 ty_162 ze_162 rfl (by decide) (by decide) rfl rfl rfl (fun b14 => ?_)
  refine eLast ?_
  refine f1 HT 7 rfl ?_
  refine oAppT ([s] : List (Int × Int)) rfl rfl (by repeat constructor) (srcOwn rfl (by repeat constructor) rfl) el_261 sl_261 (fun g15 k15 => ?_)
  refine fp HT 8 rfl pNv ?_
  refine fp HT 9 rfl (pFb fd_263_0) ?_
  refine f1 HT 10 rfl ?_
  refine oStB rfl rfl rfl rfl (by repeat constructor) ty_261 rfl (Nat.le_of_ble_eq_true rfl) rfl ?_
  refine fE HT ?_
  clear HT
  refine aSeq ?_
  have hls : (l ++ [s]).length = l.length + 1 := by simp
  refine aSome (g := g15) (by repeat constructor) (by simp) (fun b hbb => ?_)
  subst hbb
  refine aReg ?_
  refine sp pM ?_
  refine sp pNv ?_
  refine sp (pFb fd_263_0) ?_
  refine sr (rB1 ty_261) ?_
  refine sp (by first | exact pLm sl_261 | exact pLs sl_261 | exact pLv sl_261) ?_
  refine sp pSu ?_
  refine sp pMa ?_
  refine oNil ?_
  refine aBlock ?_
  refine loopF (α := Nat × List (Int × Int)) (kept := [(0, _)]) (fun (i, h) => h.length = (l ++ [s]).length ∧ i < h.length ∧ UpOk h i ∧ h.Perm (l ++ [s])) (fun (i, h) => [(4, .int i)]) (fun (i, h) => [.box hb [.v (slV (some b) (l ++ [s]).length k15)], .sl (some b) k15 162 2 (h.map spC)]) (fun (i, h) => i) (l.length, l ++ [s]) ?_ ⟨gInt rfl (by first | rfl | omega | simp), rfl, trivial⟩ (by repeat constructor) ?_
  · skip
    exact ⟨rfl, by simp, up_new hk, .refl _⟩
  · rintro ⟨i, h⟩ ⟨hlen, hi, hu, hpm⟩
    refine aSeq ?_
    refine aSeq ?_
    refine aReg ?_
    refine sp pM ?_
    refine sp pB ?_
    refine oNil ?_
    refine aCondDec rfl (fun c25 => ?_) (fun c25 => ?_)
    · skip
      refine aSkip ?_
      refine aBlock ?_
      refine aSeq ?_
      refine aReg ?_
      refine sp pM ?_
      refine sp pSu ?_
      refine sp (pQuoI rfl rfl rfl (by omega) (by rw [Int.tdiv_eq_ediv_of_nonneg (by omega)]; omega) (by rw [Int.tdiv_eq_ediv_of_nonneg (by omega)]; omega)) ?_
      rw [show ((i : Int) - 1).tdiv 2 = (((i - 1) / 2 : Nat) : Int) by rw [Int.tdiv_eq_ediv_of_nonneg (by omega)]; omega]
      refine sp pMa ?_
      refine oNil ?_
      refine aSeq ?_
      refine aSeq ?_
      have hq2 : (i - 1) / 2 < h.length := by omega
      obtain ⟨x, hx⟩ : ∃ x, h[i]? = some x := ⟨_, List.getElem?_eq_getElem (by omega)⟩
      obtain ⟨y, hy⟩ : ∃ y, h[(i - 1) / 2]? = some y := ⟨_, List.getElem?_eq_getElem (by omega)⟩
      refine aDrawT heap_Put_r6_t heap_Put_r6_b [] 16 #[false, false, false, false, false, false, false, false, false, false, false, false, false, false, false, false] (by kernel_rfl) rfl rfl (fun HT => ?_)
      refine dp HT 0 rfl pM ?_
      refine dp HT 1 rfl pNv ?_
      refine dp HT 2 rfl (pFb fd_263_0) ?_
      refine dr HT 3 rfl (rB1 ty_261) ?_
      refine dp HT 4 rfl pM ?_
      first | refine dp HT 5 rfl (pIx es_261) ?_ | (refine obtDN 32 33 rfl rfl (by omega) (fun x34 hx34 => ?_); refine dp HT 5 rfl (pIs es_261 hx34) ?_) | (refine obtD 32 33 rfl rfl (by omega) (by omega) (fun x34 hx34 => ?_); refine dp HT 5 rfl (pIs es_261 hx34) ?_) | refine dp HT 5 rfl (pIo es_261) ?_
      refine dr HT 6 rfl (rOA ty_162 hx) ?_
      refine dp HT 7 rfl pM ?_
      refine dp HT 8 rfl pNv ?_
      refine dp HT 9 rfl (pFb fd_263_0) ?_
      refine dr HT 10 rfl (rB1 ty_261) ?_
      refine dp HT 11 rfl pM ?_
      first | refine dp HT 12 rfl (pIx es_261) ?_ | (refine obtDN 39 40 rfl rfl (by omega) (fun x41 hx41 => ?_); refine dp HT 12 rfl (pIs es_261 hx41) ?_) | (refine obtD 39 40 rfl rfl (by omega) (by omega) (fun x41 hx41 => ?_); refine dp HT 12 rfl (pIs es_261 hx41) ?_) | refine dp HT 12 rfl (pIo es_261) ?_
      refine dr HT 13 rfl (rOA ty_162 hy) ?_
      refine dGo ?_
      refine e1 HT 14 rfl ?_
      refine cv rfl rfl rfl (lents_refl _) cost_Less ?_
      refine ef HT 15 rfl pNo ?_
      refine eE HT ?_
      clear HT
      refine aCondNot rfl (fun c44 => ?_) (fun c44 => ?_)
      · skip
        refine aRet ?_
        exact ⟨_, [_, _], _, rfl, (by repeat constructor), some b, k15, h, rfl, by rw [hlen], up_end hu (.inr (fun x' y' hx' hy' => by rw [hx] at hx'; rw [hy] at hy'; cases hx'; cases hy'; assumption)), hpm⟩
      · skip
        refine aSkip ?_
        refine aSeq ?_
        have hsw : swapH h i ((i - 1) / 2) = (h.set i y).set ((i - 1) / 2) x := by simp [swapH, List.getD, hx, hy]
        refine aDrawT heap_Put_r7_t heap_Put_r7_b [25, 27] 28 #[false, false, false, false, false, false, false, false, false, false, false, false, false, false, false, false, false, false, false, false, false, false, false, false, false, false, false, false] (by kernel_rfl) rfl rfl (fun HT => ?_)
        refine dp HT 0 rfl pM ?_
        refine dp HT 1 rfl pNv ?_
        refine dp HT 2 rfl (pFb fd_263_0) ?_
        refine dr HT 3 rfl (rB1 ty_261) ?_
        refine dp HT 4 rfl pM ?_
        refine dp HT 5 rfl pM ?_
        refine dp HT 6 rfl pNv ?_
        refine dp HT 7 rfl (pFb fd_263_0) ?_
        refine dr HT 8 rfl (rB1 ty_261) ?_
        refine dp HT 9 rfl pM ?_
        refine dp HT 10 rfl pM ?_
        refine dp HT 11 rfl pNv ?_
        refine dp HT 12 rfl (pFb fd_263_0) ?_
        refine dr HT 13 rfl (rB1 ty_261) ?_
        refine dp HT 14 rfl pM ?_
        first | refine dp HT 15 rfl (pIx es_261) ?_ | (refine obtDN 58 59 rfl rfl (by omega) (fun x60 hx60 => ?_); refine dp HT 15 rfl (pIs es_261 hx60) ?_) | (refine obtD 58 59 rfl rfl (by omega) (by omega) (fun x60 hx60 => ?_); refine dp HT 15 rfl (pIs es_261 hx60) ?_) | refine dp HT 15 rfl (pIo es_261) ?_
        refine dr HT 16 rfl (rOA ty_162 hy) ?_
        refine dp HT 17 rfl pM ?_
        refine dp HT 18 rfl pNv ?_
        refine dp HT 19 rfl (pFb fd_263_0) ?_
        refine dr HT 20 rfl (rB1 ty_261) ?_
        refine dp HT 21 rfl pM ?_
        first | refine dp HT 22 rfl (pIx es_261) ?_ | (refine obtDN 65 66 rfl rfl (by omega) (fun x67 hx67 => ?_); refine dp HT 22 rfl (pIs es_261 hx67) ?_) | (refine obtD 65 66 rfl rfl (by omega) (by omega) (fun x67 hx67 => ?_); refine dp HT 22 rfl (pIs es_261 hx67) ?_) | refine dp HT 22 rfl (pIo es_261) ?_
        refine dr HT 23 rfl (rOA ty_162 hx) ?_
        first | refine dp HT 24 rfl (pIx es_261) ?_ | (refine obtDN 48 49 rfl rfl (by omega) (fun x69 hx69 => ?_); refine dp HT 24 rfl (pIs es_261 hx69) ?_) | (refine obtD 48 49 rfl rfl (by omega) (by omega) (fun x69 hx69 => ?_); refine dp HT 24 rfl (pIs es_261 hx69) ?_) | refine dp HT 24 rfl (pIo es_261) ?_
        refine dGo ?_
        refine eLast ?_
        refine f1 HT 25 rfl ?_
        refine oStE (fC := spC) (l := h) (a := y) (i := (i : Int)) rfl rfl rfl rfl ty_162 ?_
        first | refine fp HT 26 rfl (pIx es_261) ?_ | (refine obtFN 53 54 rfl rfl (by omega) (fun x70 hx70 => ?_); refine fp HT 26 rfl (pIs es_261 hx70) ?_) | (refine obtF 53 54 rfl rfl (by omega) (by omega) (fun x70 hx70 => ?_); refine fp HT 26 rfl (pIs es_261 hx70) ?_) | refine fp HT 26 rfl (pIo es_261) ?_
        refine f1 HT 27 rfl ?_
        refine oStE (hi := by rw [List.length_set]; omega) (fC := spC) (a := x) (i := (((i - 1) / 2 : Nat) : Int)) rfl rfl rfl rfl ty_162 ?_
        simp only [Int.toNat_natCast]
        rw [← hsw]
        refine fE HT ?_
        clear HT
        refine aReg ?_
        refine sp pM ?_
        refine sp pMa ?_
        refine oNil ?_
        refine ⟨((i - 1) / 2, swapH h i ((i - 1) / 2)), ?_, by (try dsimp only); omega, ⟨gInt rfl (by first | rfl | omega | simp), rfl, trivial⟩, _, (by repeat constructor)⟩
        exact ⟨by rw [swapH_len]; exact hlen, by rw [swapH_len]; omega, up_swap hi (by omega) hu hx hy (by assumption), (swapH_perm hi (by omega)).trans hpm⟩
    · skip
      refine aExit rfl ?_
      exact ⟨_, [_, _], _, rfl, (by repeat constructor), some b, k15, h, rfl, by rw [hlen], up_end hu (.inl (by omega)), hpm⟩
def LInv (l : List (Int × Int)) (i m k : Nat) : Prop := (m ≠ i → m < l.length) ∧ (m = i ∨ (2 * i + 1 ≤ m ∧ m < k)) ∧ NL l i m ∧ (∀ j, 2 * i + 1 ≤ j → j < k → NL l j m) ∧ 2 * i + 1 ≤ k ∧ k ≤ 2 * i + 3
theorem NL.self {l : List (Int × Int)} {i : Nat} : NL l i i := fun x y hx hy => by rw [hx] at hy; cases hy; rw [lessS_no]; omega
theorem LInv.no {l : List (Int × Int)} {i m k : Nat} (h : LInv l i m k) (hk : k ≤ 2 * i + 2) {x y : Int × Int} (hx : l[k]? = some x) (hy : l[m]? = some y) (hn : lessS x y = false) : LInv l i m (k + 1) := by
  obtain ⟨h1, h2, h3, h4, h5, h6⟩ := h
  refine ⟨h1, by omega, h3, fun j hj hjk => ?_, by omega, by omega⟩
  by_cases e : j = k
  · subst e; intro a b ha hb; rw [hx] at ha; rw [hy] at hb; cases ha; cases hb; exact hn
  · exact h4 j hj (by omega)
theorem LInv.yes {l : List (Int × Int)} {i m k : Nat} (h : LInv l i m k) (hk : k ≤ 2 * i + 2) {x y : Int × Int} (hx : l[k]? = some x) (hy : l[m]? = some y) (hn : lessS x y = true) : LInv l i k (k + 1) := by
  obtain ⟨h1, h2, h3, h4, h5, h6⟩ := h
  have key : ∀ j, NL l j m → NL l j k := fun j hj a b ha hb => by
    rw [hx] at hb
    cases hb
    have := hj a y ha hy
    rw [lessS_no] at *
    rw [lessS_iff] at hn
    omega
  refine ⟨fun _ => (List.getElem?_eq_some_iff.1 hx).1, by omega, key i h3, fun j hj hjk => ?_, by omega, by omega⟩
  by_cases e : j = k
  · subst e; exact NL.self
  · exact key j (h4 j hj (by omega))
theorem LInv.fin {l : List (Int × Int)} {i m k : Nat} (h : LInv l i m k) (hk : 2 * i + 2 < k ∨ l.length ≤ k) : LeastAt l i m := by
  obtain ⟨h1, h2, h3, h4, h5, h6⟩ := h
  have key : ∀ j, 2 * i + 1 ≤ j → j ≤ 2 * i + 2 → NL l j m := fun j a b => by
    by_cases e : j < k
    · exact h4 j a e
    · intro x y hx
      have := (List.getElem?_eq_some_iff.1 hx).1
      omega
  exact ⟨by omega, h3, key _ (by omega) (by omega), key _ (by omega) (by omega)⟩
/- heap.Heap).least -/
def heap_least_r5_T : Bool × List (List Nat × List Nat) := (true, [([], []), ([0], [0]), ([1], [1]), ([2], [2]), ([], []), ([3, 4], [3, 4]), ([5], [5]), ([], []), ([7], [7]), ([8], [8]), ([9], [9]), ([], []), ([10, 11], [10, 11]), ([12], [12]), ([6, 13], [6, 13])])
def heap_least_r5_B : List Nat := [0, 1, 3, 7, 0, 31, 63, 0, 128, 384, 896, 0, 3968, 8064, 16383]
theorem heap_least_r5_t : Go.Proofs.YtmcannmjielalaaW.PrintLast.rtab .any (Go.Proofs.YtmcannmjielalaaW.PrintLast.opsOf Try.f221 5) = heap_least_r5_T := by kernel_rfl
theorem heap_least_r5_b : Go.Proofs.YtmcannmjielalaaW.PrintLast.waitsOk heap_least_r5_T.2 heap_least_r5_B = true := by kernel_rfl
set_option maxRecDepth 100000 in
set_option maxHeartbeats 1000000 in
theorem heap_least (hb b c : Nat) (n : Nat) (l : List (Int × Int)) (i : Nat) (hn : n = l.length) (hi : i ≤ 10000001) (hll : l.length ≤ 10000001) : Triple Try.prog 221 [(.v (.pointer (some ⟨hb, 0, none⟩))), .int i] [.box hb [.v (slV (some b) n c)], .sl (some b) c 162 2 (l.map spC)] (fun r h' => ∃ k : Nat, r = .int k ∧ h' = [.box hb [.v (slV (some b) n c)], .sl (some b) c 162 2 (l.map spC)] ∧ LeastAt l i k ∧ (k ≠ i → i < k ∧ k < l.length)) := by
  refine triple_of Try.func221 rfl (by kernel_rfl) rfl (by simp) ?_
  refine aSeq ?_
  refine aReg ?_
  refine sp pMa ?_
  refine oNil ?_
  refine aSeq ?_
  refine aReg ?_
  refine sp pM ?_
  refine sp pMa ?_
  refine oNil ?_
  refine aSeq ?_
  refine aSeq ?_
  refine aReg ?_
  refine sp pM ?_
  refine sp pMu ?_
  refine sp pAd ?_
  refine sp pMa ?_
  refine oNil ?_
  refine aBlock ?_
  refine loopF (α := Nat × Nat) (kept := [(0, _), (1, _)]) (fun (m, k) => LInv l i m k) (fun (m, k) => [(5, .int m), (6, .int k)]) (fun (m, k) => []) (fun (m, k) => 2 * i + 3 - k) (i, 2 * i + 1) ?_ ⟨gInt rfl (by first | rfl | omega | simp), gInt rfl (by first | rfl | omega | simp), rfl, rfl, trivial⟩ (by repeat constructor) ?_
  · skip
    exact ⟨fun e => absurd rfl e, .inl rfl, NL.self, fun j a b => by omega, by omega, by omega⟩
  · rintro ⟨m, k⟩ hv
    refine aSeq ?_
    refine aSeq ?_
    have hk1 := hv.2.2.2.2.1
    have hk2 := hv.2.2.2.2.2
    refine aReg ?_
    refine sp pM ?_
    refine sp pM ?_
    refine sp pMu ?_
    refine sp pAd ?_
    refine sp pB ?_
    refine sp pM ?_
    refine oSplitDec 16 rfl (fun c16 => ?_) (fun c16 => ?_)
    · skip
      refine gp pM ?_
      refine gp pM ?_
      refine gp pNv ?_
      refine gp (pFb fd_263_0) ?_
      refine gr (rB1 ty_261) ?_
      refine gp (by first | exact pLm sl_261 | exact pLs sl_261 | exact pLv sl_261) ?_
      refine gp pB ?_
      refine sp pK ?_
      refine oNil ?_
      refine aCondDec rfl (fun c24 => ?_) (fun c24 => ?_)
      · skip
        refine aSkip ?_
        refine aSeq ?_
        refine aBlock ?_
        refine aSeq ?_
        have hmk : m < k := by have := hv.2.1; omega
        obtain ⟨x, hx⟩ : ∃ x, l[k]? = some x := ⟨_, List.getElem?_eq_getElem (by omega)⟩
        obtain ⟨y, hy⟩ : ∃ y, l[m]? = some y := ⟨_, List.getElem?_eq_getElem (by omega)⟩
        refine aDrawT heap_least_r5_t heap_least_r5_b [] 15 #[false, false, false, false, false, false, false, false, false, false, false, false, false, false, false] (by kernel_rfl) rfl rfl (fun HT => ?_)
        refine dp HT 0 rfl pM ?_
        refine dp HT 1 rfl pNv ?_
        refine dp HT 2 rfl (pFb fd_263_0) ?_
        refine dr HT 3 rfl (rB1 ty_261) ?_
        refine dp HT 4 rfl pM ?_
        first | refine dp HT 5 rfl (pIx es_261) ?_ | (refine obtDN 30 31 rfl rfl (by omega) (fun x32 hx32 => ?_); refine dp HT 5 rfl (pIs es_261 hx32) ?_) | (refine obtD 30 31 rfl rfl (by omega) (by omega) (fun x32 hx32 => ?_); refine dp HT 5 rfl (pIs es_261 hx32) ?_) | refine dp HT 5 rfl (pIo es_261) ?_
        refine dr HT 6 rfl (rOA ty_162 hx) ?_
        refine dp HT 7 rfl pM ?_
        refine dp HT 8 rfl pNv ?_
        refine dp HT 9 rfl (pFb fd_263_0) ?_
        refine dr HT 10 rfl (rB1 ty_261) ?_
        refine dp HT 11 rfl pM ?_
        first | refine dp HT 12 rfl (pIx es_261) ?_ | (refine obtDN 37 38 rfl rfl (by omega) (fun x39 hx39 => ?_); refine dp HT 12 rfl (pIs es_261 hx39) ?_) | (refine obtD 37 38 rfl rfl (by omega) (by omega) (fun x39 hx39 => ?_); refine dp HT 12 rfl (pIs es_261 hx39) ?_) | refine dp HT 12 rfl (pIo es_261) ?_
        refine dr HT 13 rfl (rOA ty_162 hy) ?_
        refine dGo ?_
        refine e1 HT 14 rfl ?_
        refine cv rfl rfl rfl (lents_refl _) cost_Less ?_
        refine eE HT ?_
        clear HT
        refine aCond rfl (fun c41 => ?_) (fun c41 => ?_)
        · skip
          refine aReg ?_
          refine sp pM ?_
          refine sp pMa ?_
          refine oNil ?_
          refine aReg ?_
          refine sp pM ?_
          refine sp pAd ?_
          refine sp pMa ?_
          refine oNil ?_
          refine ⟨(_, k + 1), ?_, by (try dsimp only); omega, ⟨gInt rfl (by first | rfl | omega | simp), gInt rfl (by first | rfl | omega | simp), rfl, rfl, trivial⟩, _, (by repeat constructor)⟩
          first
            | exact hv.no (by omega) hx hy (by assumption)
            | exact hv.yes (by omega) hx hy (by assumption)
        · skip
          refine aSkip ?_
          refine aReg ?_
          refine sp pM ?_
          refine sp pAd ?_
          refine sp pMa ?_
          refine oNil ?_
          refine ⟨(_, k + 1), ?_, by (try dsimp only); omega, ⟨gInt rfl (by first | rfl | omega | simp), gInt rfl (by first | rfl | omega | simp), rfl, rfl, trivial⟩, _, (by repeat constructor)⟩
          first
            | exact hv.no (by omega) hx hy (by assumption)
            | exact hv.yes (by omega) hx hy (by assumption)
      · skip
        refine aExit rfl ?_
        refine aSeq ?_
        refine aReg ?_
        refine sp pM ?_
        refine sp pMa ?_
        refine oNil ?_
        refine aRet ?_
        exact ⟨_, [_, _], _, rfl, (by repeat constructor), m, rfl, rfl, hv.fin (by omega), fun e => by have := hv.2.1; have := hv.1 e; omega⟩
    · skip
      refine gf ?_
      refine gf ?_
      refine gf ?_
      refine gf ?_
      refine gf ?_
      refine gf ?_
      refine gf ?_
      refine sp pK ?_
      refine oNil ?_
      refine aCondF rfl ?_
      refine aExit rfl ?_
      refine aSeq ?_
      refine aReg ?_
      refine sp pM ?_
      refine sp pMa ?_
      refine oNil ?_
      refine aRet ?_
      exact ⟨_, [_, _], _, rfl, (by repeat constructor), m, rfl, rfl, hv.fin (by omega), fun e => by have := hv.2.1; have := hv.1 e; omega⟩
end A
end Go.Proofs.Ytmcannmjielalaa
set_option linter.unusedVariables false
set_option linter.unusedSimpArgs false
namespace Go.Proofs.Ytmcannmjielalaa
namespace A
theorem st_162 : structPlaces Try.prog 162 = some [(0, 1), (1, 1)] := by kernel_rfl
theorem st_263 : structPlaces Try.prog 263 = some [(0, 1)] := by kernel_rfl
theorem ze_263 : zeroOf Try.prog 263 = some (.agg #[.slice none 0 0]) := by kernel_rfl
/- heap.Heap).Len -/
set_option maxRecDepth 100000 in
set_option maxHeartbeats 400000 in
theorem heap_Len (hb : Nat) (g : Option Nat) (c : Nat) (l : List (Int × Int)) : Triple Try.prog 267 [(.v (.pointer (some ⟨hb, 0, none⟩)))] [.box hb [.v (slV g l.length c)], .sl g c 162 2 (l.map spC)] (Is (.int l.length) [.box hb [.v (slV g l.length c)], .sl g c 162 2 (l.map spC)]) := by
  refine triple_of Try.func267 rfl (by kernel_rfl) rfl (by simp) ?_
  refine aSeq ?_
  refine aReg ?_
  refine sp pMa ?_
  refine oNil ?_
  refine aSeq ?_
  refine aSeq ?_
  refine aReg ?_
  refine sp pM ?_
  refine sp (by first | exact pPtrNil rfl (.inl rfl) rfl pt_159 rfl rfl | exact pSpNil rfl (.inl rfl) rfl pt_159 rfl) ?_
  refine oNil ?_
  refine aCondF rfl ?_
  refine aSkip ?_
  refine aSeq ?_
  refine aReg ?_
  refine sp pM ?_
  refine sp pNv ?_
  refine sp (pFb fd_263_0) ?_
  refine sr (rB1 ty_261) ?_
  refine sp (by first | exact pLm sl_261 | exact pLs sl_261 | exact pLv sl_261) ?_
  refine sp pMa ?_
  refine oNil ?_
  refine aRet ?_
  refine finIs rfl ?_
  rfl
/- heap.Heap).First -/
set_option maxRecDepth 100000 in
set_option maxHeartbeats 1000000 in
theorem heap_First (hb : Nat) (g : Option Nat) (c : Nat) (l : List (Int × Int)) : Triple Try.prog 220 [(.v (.pointer (some ⟨hb, 0, none⟩)))] [.box hb [.v (slV g l.length c)], .sl g c 162 2 (l.map spC)] (Is (.tup [.agg (spC (l.headD (0, 0))), .v (.bool (!l.isEmpty))]) [.box hb [.v (slV g l.length c)], .sl g c 162 2 (l.map spC)]) := by
  refine triple_ofR Try.func220 rfl (by kernel_rfl) rfl (by simp) ?_
  refine aSeq ?_
  refine aReg ?_
  refine sq ?_
  refine qAlloc rfl rfl (by decide) ze_162 rfl (fun b2 => ?_)
  refine sp pMa ?_
  refine oNil ?_
  refine aSeq ?_
  refine aSeq ?_
  refine aReg ?_
  refine sp pM ?_
  refine sa ?_
  refine cai rfl rfl rfl (heap_Len hb g c l) ?_
  refine sp pB ?_
  refine oNil ?_
  refine aCondEq rfl (fun c6 => ?_) (fun c6 => ?_)
  · skip
    refine aSeq ?_
    refine aReg ?_
    refine sp (pBuild rfl st_162 ze_162 rfl rfl rfl rfl) ?_
    refine sa ?_
    refine oStW rfl rfl rfl rfl (by repeat constructor) ty_162 ?_
    refine sp pMa ?_
    refine oNil ?_
    refine aRet ?_
    refine finRIs (l := [.agg (spC (0, 0)), .v (.bool false)]) (.cons (.cellA rfl (by repeat (first | exact List.mem_cons_self | apply List.mem_cons_of_mem)) ty_162) (.cons (.tmp rfl) .nil)) ?_
    have : l = [] := by
      have h0 : (l.length : Int) = 0 := by assumption
      exact List.eq_nil_of_length_eq_zero (by omega)
    subst this
    rfl
  · skip
    refine aSkip ?_
    refine aSeq ?_
    refine aSome (g := g) (by repeat constructor) (by intro e; simp at e; subst e; simp at c6) (fun b hbb => ?_)
    subst hbb
    obtain ⟨x, hx⟩ : ∃ x, l[(0 : Int).toNat]? = some x := ⟨_, List.getElem?_eq_getElem (by simp; omega)⟩
    have hl0 : l = x :: l.tail := by cases l <;> simp_all
    refine aReg ?_
    refine sp pM ?_
    refine sp pNv ?_
    refine sp (pFb fd_263_0) ?_
    refine sr (rB1 ty_261) ?_
    first | refine sp (pIx es_261) ?_ | refine sp (pIo es_261) ?_
    refine sr (rOA ty_162 hx) ?_
    refine sa ?_
    refine oStW rfl rfl rfl rfl (by repeat constructor) ty_162 ?_
    refine sp pMa ?_
    refine oNil ?_
    refine aRet ?_
    refine finRIs (l := [.agg (spC x), .v (.bool true)]) (.cons (.cellA rfl (by repeat (first | exact List.mem_cons_self | apply List.mem_cons_of_mem)) ty_162) (.cons (.tmp rfl) .nil)) ?_
    rw [hl0]
    rfl
/- heap.Heap).Take -/
def heap_Take_r5_T : Bool × List (List Nat × List Nat) := (true, [([], []), ([0], [0]), ([1], [1]), ([2], [2]), ([], []), ([4], [4]), ([5], [5]), ([6], [6]), ([], []), ([7, 8], [7, 8]), ([9], [9]), ([3, 0, 1, 2, 3, 4, 5, 6, 7, 8, 9, 10], [3]), ([11, 10, 0, 1, 2, 3, 4, 5, 6, 7, 8, 9, 10], [10, 11])])
def heap_Take_r5_B : List Nat := [0, 1, 3, 7, 0, 16, 48, 112, 0, 496, 1008, 2047, 4095]
theorem heap_Take_r5_t : Go.Proofs.YtmcannmjielalaaW.PrintLast.rtab .any (Go.Proofs.YtmcannmjielalaaW.PrintLast.opsOf Try.f126 5) = heap_Take_r5_T := by kernel_rfl
theorem heap_Take_r5_b : Go.Proofs.YtmcannmjielalaaW.PrintLast.waitsOk heap_Take_r5_T.2 heap_Take_r5_B = true := by kernel_rfl
def heap_Take_r11_T : Bool × List (List Nat × List Nat) := (true, [([], []), ([0], [0]), ([1], [1]), ([2], [2]), ([], []), ([], []), ([5], [5]), ([6], [6]), ([7], [7]), ([], []), ([], []), ([10], [10]), ([11], [11]), ([12], [12]), ([], []), ([13, 14], [13, 14]), ([15], [15]), ([], []), ([17], [17]), ([18], [18]), ([19], [19]), ([], []), ([20, 21], [20, 21]), ([22], [22]), ([3, 4, 0, 1, 2, 3, 4, 8, 10, 11, 12, 13, 14, 15, 16, 20, 23], [3, 4]), ([24, 16, 0, 1, 2, 3, 4, 8, 10, 11, 12, 13, 14, 15, 16, 20, 23], [16, 24]), ([8, 9, 0, 1, 2, 3, 4, 5, 6, 7, 8, 9, 10, 11, 12, 13, 14, 15, 16, 17, 18, 19, 20, 21, 22, 23, 24, 25], [8, 9]), ([26, 23, 25, 0, 1, 2, 3, 4, 5, 6, 7, 8, 9, 10, 11, 12, 13, 14, 15, 16, 17, 18, 19, 20, 21, 22, 23, 24, 25], [23, 26])])
def heap_Take_r11_B : List Nat := [0, 1, 3, 7, 0, 0, 32, 96, 224, 0, 0, 1024, 3072, 7168, 0, 31744, 64512, 0, 131072, 393216, 917504, 0, 4063232, 8257536, 16776703, 33553919, 67108863, 134217727]
theorem heap_Take_r11_t : Go.Proofs.YtmcannmjielalaaW.PrintLast.rtab .any (Go.Proofs.YtmcannmjielalaaW.PrintLast.opsOf Try.f126 11) = heap_Take_r11_T := by kernel_rfl
theorem heap_Take_r11_b : Go.Proofs.YtmcannmjielalaaW.PrintLast.waitsOk heap_Take_r11_T.2 heap_Take_r11_B = true := by kernel_rfl
set_option maxRecDepth 100000 in
set_option maxHeartbeats 2000000 in
theorem heap_Take (hb : Nat) (g : Option Nat) (c : Nat) (l : List (Int × Int)) (hk : HeapOk l) (hll : l.length ≤ 10000000) : Triple Try.prog 126 [(.v (.pointer (some ⟨hb, 0, none⟩)))] [.box hb [.v (slV g l.length c)], .sl g c 162 2 (l.map spC)] (fun r h' => ∃ x q l' g' c', r = .tup [.agg (spC x), .v (.bool q)] ∧ h' = [.box hb [.v (slV g' l'.length c')], .sl g' c' 162 2 (l'.map spC)] ∧ HeapOk l' ∧ (q = false → l = [] ∧ l' = []) ∧ (q = true → l.Perm (x :: l') ∧ ∀ e ∈ l, x.1 ≤ e.1)) := by
  refine triple_ofR Try.func126 rfl (by kernel_rfl) rfl (by simp) ?_
  refine aSeq ?_
  refine aReg ?_
  refine sq ?_
  refine qAlloc rfl rfl (by decide) ze_162 rfl (fun b2 => ?_)
  refine sp pMa ?_
  refine oNil ?_
  refine aSeq ?_
  refine aReg ?_
  refine sp pM ?_
  refine sa ?_
  refine cai rfl rfl rfl (heap_First hb g c l) ?_
  refine sp pM ?_
  refine sp pX ?_
  refine sp pX ?_
  refine sq ?_
  refine qAlloc rfl rfl (by decide) ze_162 rfl (fun b4 => ?_)
  refine sa ?_
  refine oStW rfl rfl rfl rfl (by repeat constructor) ty_162 ?_
  refine sp pMa ?_
  refine oNil ?_
  refine aSeq ?_
  refine aSeq ?_
  refine aReg ?_
  refine sp pM ?_
  refine sp pNo ?_
  refine oNil ?_
  refine aCondNot rfl (fun c15 => ?_) (fun c15 => ?_)
  · skip
    refine aSeq ?_
    refine aReg ?_
    refine sp (pBuild rfl st_162 ze_162 rfl rfl rfl rfl) ?_
    refine sa ?_
    refine oStW rfl rfl rfl rfl (by repeat constructor) ty_162 ?_
    refine sp pMa ?_
    refine oNil ?_
    refine aRet ?_
    refine ⟨[.agg (spC (0, 0)), .v (.bool false)], [.box hb [.v (slV g l.length c)], .sl g c 162 2 (l.map spC)], _, .cons (.cellA rfl (by repeat (first | exact List.mem_cons_self | apply List.mem_cons_of_mem)) ty_162) (.cons (.tmp rfl) .nil), (by repeat constructor), ?_⟩
    have hle : l = [] := by cases l <;> simp_all
    subst hle
    exact ⟨(0, 0), false, [], g, c, rfl, rfl, hk, fun _ => ⟨rfl, rfl⟩, fun h => by cases h⟩
  · skip
    refine aSkip ?_
    refine aSeq ?_
    have hne : l ≠ [] := by intro e; subst e; simp_all
    have hpos : 0 < l.length := List.length_pos_iff.2 hne
    refine aSome (g := g) (by repeat constructor) (by simpa using hne) (fun b hbb => ?_)
    subst hbb
    refine aCap (c := c) (by repeat constructor) (fun hcap => ?_)
    rw [List.length_map] at hcap
    obtain ⟨y0, hy0⟩ : ∃ y, l[((l.length - 1 : Nat) : Int).toNat]? = some y := ⟨_, List.getElem?_eq_getElem (by simp; omega)⟩
    have hy0' : l[l.length - 1]? = some y0 := hy0
    have hl0 : l[0]? = some (l.headD (0, 0)) := by cases l <;> simp_all
    refine aReg ?_
    refine sp pM ?_
    refine sp pNv ?_
    refine sp (pFb fd_263_0) ?_
    refine sr (rB1 ty_261) ?_
    refine sp (by first | exact pLm sl_261 | exact pLs sl_261 | exact pLv sl_261) ?_
    refine sp pSu ?_
    rw [show ((l.length : Int) - 1) = ((l.length - 1 : Nat) : Int) by omega]
    refine sp pMa ?_
    refine oNil ?_
    refine aSeq ?_
    refine aDrawT heap_Take_r5_t heap_Take_r5_b [12] 13 #[false, false, false, false, false, false, false, false, false, false, false, false, false] (by kernel_rfl) rfl rfl (fun HT => ?_)
    refine dp HT 0 rfl pM ?_
    refine dp HT 1 rfl pNv ?_
    refine dp HT 2 rfl (pFb fd_263_0) ?_
    refine dr HT 3 rfl (rB1 ty_261) ?_
    refine dp HT 4 rfl pM ?_
    refine dp HT 5 rfl pNv ?_
    refine dp HT 6 rfl (pFb fd_263_0) ?_
    refine dr HT 7 rfl (rB1 ty_261) ?_
    refine dp HT 8 rfl pM ?_
    first | refine dp HT 9 rfl (pIx es_261) ?_ | (refine obtDN 30 31 rfl rfl (by omega) (fun x32 hx32 => ?_); refine dp HT 9 rfl (pIs es_261 hx32) ?_) | (refine obtD 30 31 rfl rfl (by omega) (by omega) (fun x32 hx32 => ?_); refine dp HT 9 rfl (pIs es_261 hx32) ?_) | refine dp HT 9 rfl (pIo es_261) ?_
    refine dr HT 10 rfl (rOA ty_162 hy0) ?_
    first | refine dp HT 11 rfl (pIx es_261) ?_ | refine dp HT 11 rfl (pIo es_261) ?_
    refine dGo ?_
    refine eLast ?_
    refine f1 HT 12 rfl ?_
    refine oStE (fC := spC) (l := l) (a := y0) (i := (0 : Int)) (hi := by simp; omega) rfl rfl rfl rfl ty_162 ?_
    refine fE HT ?_
    clear HT
    refine aSeq ?_
    refine aReg ?_
    refine sp pM ?_
    refine sp pM ?_
    refine sp pNv ?_
    refine sp (pFb fd_263_0) ?_
    refine sr (rB1 ty_261) ?_
    refine sp pM ?_
    refine sp (pSlHi rfl rfl es_261 (bdI rfl) (by omega)) ?_
    refine sp pNv ?_
    refine sp (pFb fd_263_0) ?_
    refine sa ?_
    refine oStB rfl rfl rfl rfl (by repeat constructor) ty_261 rfl (Nat.le_of_ble_eq_true rfl) rfl ?_
    refine oNil ?_
    refine aSeq ?_
    refine aReg ?_
    refine sp pMa ?_
    refine oNil ?_
    refine aBlock ?_
    refine aWeak (weak_cut (l.length - 1) (by repeat constructor)) ?_
    rw [← List.map_take]
    refine loopF (α := Nat × List (Int × Int)) (kept := [(0, _), (2, _), (4, _)]) (fun (i, h) => DownOk h i ∧ h.Perm ((l.set 0 y0).take (l.length - 1)) ∧ i ≤ l.length) (fun (i, h) => [(7, .int i)]) (fun (i, h) => [.box hb [.v (slV (some b) (l.length - 1) c)], .sl (some b) c 162 2 (h.map spC)]) (fun (i, h) => l.length - i) (0, (l.set 0 y0).take (l.length - 1)) ?_ ⟨gInt rfl (by first | rfl | omega | simp), rfl, rfl, rfl, trivial⟩ (by repeat constructor) ?_
    · skip
      exact ⟨down_new hk, .refl _, by omega⟩
    · rintro ⟨i, h⟩ ⟨hd, hpm, hil⟩
      refine aBlock ?_
      refine aSeq ?_
      refine aReg ?_
      refine sp pM ?_
      refine sp pM ?_
      refine sa ?_
      refine ca rfl rfl rfl (heap_least hb b c (l.length - 1) h i (by rw [hpm.length_eq]; simp) (by omega) (by rw [hpm.length_eq]; simp; omega)) ?_
      rintro _ _ ⟨k, rfl, rfl, hL, hkl⟩
      refine sp pMa ?_
      refine oNil ?_
      refine aSeq ?_
      refine aSeq ?_
      refine aReg ?_
      refine sp pM ?_
      refine sp pM ?_
      refine sp pB ?_
      refine oNil ?_
      refine aCondEq rfl (fun c49 => ?_) (fun c49 => ?_)
      · skip
        refine aSeq ?_
        refine aReg ?_
        refine sr (by first | exact rBWa ty_162 | exact rBW ty_162 | exact rBA ty_162) ?_
        refine sa ?_
        refine oStW rfl rfl rfl rfl (by repeat constructor) ty_162 ?_
        refine sp pMa ?_
        refine oNil ?_
        refine aRet ?_
        refine ⟨[.agg (spC (l.headD (0, 0))), .v (.bool true)], [.box hb [.v (slV (some b) (l.length - 1) c)], .sl (some b) c 162 2 (h.map spC)], _, .cons (.cellA rfl (by repeat (first | exact List.mem_cons_self | apply List.mem_cons_of_mem)) ty_162) (.cons (.tmp rfl) .nil), (by repeat constructor), ?_⟩
        have hki : (k : Int) = i := by assumption
        obtain rfl : k = i := by omega
        refine ⟨l.headD (0, 0), true, h, some b, c, rfl, ?_, down_end hd hL, (fun h => by cases h), fun _ => ⟨?_, heap_first hk hl0⟩⟩
        · rw [show h.length = l.length - 1 by rw [hpm.length_eq]; simp]
        · exact (take_perm hl0 hy0').trans (hpm.symm.cons _)
      · skip
        refine aSkip ?_
        refine aSeq ?_
        have hkl2 := hkl (by omega)
        obtain ⟨x, hx⟩ : ∃ x, h[i]? = some x := ⟨_, List.getElem?_eq_getElem (by omega)⟩
        obtain ⟨y, hy⟩ : ∃ y, h[k]? = some y := ⟨_, List.getElem?_eq_getElem hkl2.2⟩
        have hhl : h.length = l.length - 1 := by rw [hpm.length_eq]; simp
        have hsw : swapH h i k = (h.set i y).set k x := by simp [swapH, List.getD, hx, hy]
        refine aDrawT heap_Take_r11_t heap_Take_r11_b [25, 27] 28 #[false, false, false, false, false, false, false, false, false, false, false, false, false, false, false, false, false, false, false, false, false, false, false, false, false, false, false, false] (by kernel_rfl) rfl rfl (fun HT => ?_)
        refine dp HT 0 rfl pM ?_
        refine dp HT 1 rfl pNv ?_
        refine dp HT 2 rfl (pFb fd_263_0) ?_
        refine dr HT 3 rfl (rB1 ty_261) ?_
        refine dp HT 4 rfl pM ?_
        refine dp HT 5 rfl pM ?_
        refine dp HT 6 rfl pNv ?_
        refine dp HT 7 rfl (pFb fd_263_0) ?_
        refine dr HT 8 rfl (rB1 ty_261) ?_
        refine dp HT 9 rfl pM ?_
        refine dp HT 10 rfl pM ?_
        refine dp HT 11 rfl pNv ?_
        refine dp HT 12 rfl (pFb fd_263_0) ?_
        refine dr HT 13 rfl (rB1 ty_261) ?_
        refine dp HT 14 rfl pM ?_
        first | refine dp HT 15 rfl (pIx es_261) ?_ | (refine obtDN 64 65 rfl rfl (by omega) (fun x66 hx66 => ?_); refine dp HT 15 rfl (pIs es_261 hx66) ?_) | (refine obtD 64 65 rfl rfl (by omega) (by omega) (fun x66 hx66 => ?_); refine dp HT 15 rfl (pIs es_261 hx66) ?_) | refine dp HT 15 rfl (pIo es_261) ?_
        refine dr HT 16 rfl (rOA ty_162 hy) ?_
        refine dp HT 17 rfl pM ?_
        refine dp HT 18 rfl pNv ?_
        refine dp HT 19 rfl (pFb fd_263_0) ?_
        refine dr HT 20 rfl (rB1 ty_261) ?_
        refine dp HT 21 rfl pM ?_
        first | refine dp HT 22 rfl (pIx es_261) ?_ | (refine obtDN 71 72 rfl rfl (by omega) (fun x73 hx73 => ?_); refine dp HT 22 rfl (pIs es_261 hx73) ?_) | (refine obtD 71 72 rfl rfl (by omega) (by omega) (fun x73 hx73 => ?_); refine dp HT 22 rfl (pIs es_261 hx73) ?_) | refine dp HT 22 rfl (pIo es_261) ?_
        refine dr HT 23 rfl (rOA ty_162 hx) ?_
        first | refine dp HT 24 rfl (pIx es_261) ?_ | (refine obtDN 54 55 rfl rfl (by omega) (fun x75 hx75 => ?_); refine dp HT 24 rfl (pIs es_261 hx75) ?_) | (refine obtD 54 55 rfl rfl (by omega) (by omega) (fun x75 hx75 => ?_); refine dp HT 24 rfl (pIs es_261 hx75) ?_) | refine dp HT 24 rfl (pIo es_261) ?_
        refine dGo ?_
        refine eLast ?_
        refine f1 HT 25 rfl ?_
        refine oStE (fC := spC) (l := h) (a := y) (i := (i : Int)) rfl rfl rfl rfl ty_162 ?_
        first | refine fp HT 26 rfl (pIx es_261) ?_ | (refine obtFN 59 60 rfl rfl (by omega) (fun x76 hx76 => ?_); refine fp HT 26 rfl (pIs es_261 hx76) ?_) | (refine obtF 59 60 rfl rfl (by omega) (by omega) (fun x76 hx76 => ?_); refine fp HT 26 rfl (pIs es_261 hx76) ?_) | refine fp HT 26 rfl (pIo es_261) ?_
        refine f1 HT 27 rfl ?_
        refine oStE (hi := by rw [List.length_set]; omega) (fC := spC) (a := x) (i := (k : Int)) rfl rfl rfl rfl ty_162 ?_
        simp only [Int.toNat_natCast]
        rw [← hsw]
        refine fE HT ?_
        clear HT
        refine aReg ?_
        refine sp pM ?_
        refine sp pMa ?_
        refine oNil ?_
        refine ⟨(k, swapH h i k), ?_, by (try dsimp only); omega, ⟨gInt rfl (by first | rfl | omega | simp), rfl, rfl, rfl, trivial⟩, _, (by repeat constructor)⟩
        exact ⟨down_swap (by omega) hkl2.2 hd hL (by omega), (swapH_perm (by omega) hkl2.2).trans hpm, by omega⟩
/- heap.New -/
set_option maxRecDepth 100000 in
set_option maxHeartbeats 1000000 in
theorem heap_New (xs : List (Int × Int)) (hx : xs.length ≤ 1000) : Triple Try.prog 125 [.sl 2 (xs.map spC)] [] (fun r h' => ∃ hb g c h, r = .v (.pointer (some ⟨hb, 0, none⟩)) ∧ h' = [.box hb [.v (slV g h.length c)], .sl g c 162 2 (h.map spC)] ∧ HeapOk h ∧ h.Perm xs) := by
  refine triple_of Try.func125 rfl (by kernel_rfl) rfl (by simp) ?_
  refine aSeq ?_
  refine aReg ?_
  refine sp pMa ?_
  refine oNil ?_
  refine aSeq ?_
  refine aReg ?_
  refine sp (pBuild rfl st_263 ze_263 rfl rfl rfl rfl) ?_
  refine sq ?_
  refine qBox rfl rfl (by decide) rfl rfl (fun b7 => ?_)
  refine sp pMa ?_
  refine oNil ?_
  refine aSeq ?_
  refine aSeq ?_
  refine aWeak (weak_nil 162 2) ?_
  refine aReg ?_
  refine sp pM ?_
  refine sp (by first | exact pLm sl_261 | exact pLs sl_261) ?_
  refine sp pM ?_
  refine oNil ?_
  refine aBlock ?_
  refine loopF (α := Nat × List (Int × Int) × Option Nat × Nat) (kept := [(3, _), (8, _), (9, _)]) (fun (i, h, g, c) => i ≤ xs.length ∧ HeapOk h ∧ h.Perm (xs.take i)) (fun (i, h, g, c) => [(10, .int i)]) (fun (i, h, g, c) => [.box b7 [.v (slV g h.length c)], .sl g c 162 2 (h.map spC)]) (fun (i, h, g, c) => xs.length - i) (0, [], none, 0) ?_ ⟨gInt rfl (by first | rfl | omega | simp), rfl, rfl, rfl, trivial⟩ (by repeat constructor) ?_
  · skip
    exact ⟨by omega, fun j hj x y hx => by simp at hx, .refl _⟩
  · rintro ⟨i, h, g, c⟩ ⟨hi, hk, hpm⟩
    refine aSeq ?_
    refine aReg ?_
    refine sp pB ?_
    refine oNil ?_
    refine aSeq ?_
    refine aCondDec rfl (fun c11 => ?_) (fun c11 => ?_)
    · skip
      refine aSkip ?_
      refine aSeq ?_
      refine aBlock ?_
      refine aSeq ?_
      obtain ⟨x, hxx⟩ : ∃ x, xs[i]? = some x := ⟨_, List.getElem?_eq_getElem (by omega)⟩
      refine aReg ?_
      first | refine sp (pIx es_261) ?_ | (refine obtSN 8 10 rfl rfl (by omega) (fun x12 hx12 => ?_); refine sp (pIs es_261 hx12) ?_) | (refine obtS 8 10 rfl rfl (by omega) (by omega) (fun x12 hx12 => ?_); refine sp (pIs es_261 hx12) ?_) | refine sp (pIo es_261) ?_
      refine sr (by first | exact rSW ty_162 rfl | exact rSA ty_162) ?_
      refine sq ?_
      refine qAlloc rfl rfl (by decide) ze_162 rfl (fun b5 => ?_)
      refine sa ?_
      refine oStW rfl rfl rfl rfl (by repeat constructor) ty_162 ?_
      refine oNil ?_
      refine aReg ?_
      refine sp pM ?_
      refine sr (by first | exact rBWa ty_162 | exact rBW ty_162 | exact rBA ty_162) ?_
      refine sa ?_
      refine ca rfl rfl rfl (heap_Put b7 g c h x hk (by have := hpm.length_eq; rw [List.length_take] at this; omega)) ?_
      rintro _ _ ⟨g', c', h', rfl, rfl, hk', hpm'⟩
      refine oNil ?_
      refine aReg ?_
      refine sp pAd ?_
      refine sp pM ?_
      refine oNil ?_
      refine ⟨(i + 1, h', g', c'), ?_, by (try dsimp only); omega, ⟨gInt rfl (by first | rfl | omega | simp), rfl, rfl, rfl, trivial⟩, _, (by repeat constructor)⟩
      exact ⟨by omega, hk', by rw [take_step hxx]; exact hpm'.trans (hpm.append_right _)⟩
    · skip
      refine aExit rfl ?_
      refine aSeq ?_
      refine aReg ?_
      refine sp pM ?_
      refine sp pMa ?_
      refine oNil ?_
      refine aRet ?_
      rw [take_all (by omega)] at hpm
      exact ⟨_, [_, _], _, rfl, (by repeat constructor), b7, g, c, h, rfl, rfl, hk, hpm⟩
end A
end Go.Proofs.Ytmcannmjielalaa
set_option linter.unusedVariables false
set_option linter.unusedSimpArgs false
namespace Go.Proofs.Ytmcannmjielalaa
namespace A
theorem ar_169 : arrOf Try.prog 169 = some (65, 1) := by kernel_rfl
theorem ar_170 : arrOf Try.prog 170 = some (65, 1) := by kernel_rfl
theorem fd_172_0 : fieldOf Try.prog 172 0 = some (0, 65, true) := by kernel_rfl
theorem fd_172_1 : fieldOf Try.prog 172 1 = some (65, 65, true) := by kernel_rfl
theorem ik_3 : intKindOf Try.prog 3 = some .i64 := by kernel_rfl
theorem ik_37 : intKindOf Try.prog 37 = some .u64 := by kernel_rfl
theorem st_172 : structPlaces Try.prog 172 = some [(0, 65), (65, 65)] := by kernel_rfl
theorem ty_172 : tyOf Try.prog 172 = some (130, true) := by kernel_rfl
theorem ty_4 : tyOf Try.prog 4 = some (1, false) := by kernel_rfl
theorem ze_172 : zeroOf Try.prog 172 = some (.agg #[.int .u64 0, .int .u64 0, .int .u64 0, .int .u64 0, .int .u64 0, .int .u64 0, .int .u64 0, .int .u64 0, .int .u64 0, .int .u64 0, .int .u64 0, .int .u64 0, .int .u64 0, .int .u64 0, .int .u64 0, .int .u64 0, .int .u64 0, .int .u64 0, .int .u64 0, .int .u64 0, .int .u64 0, .int .u64 0, .int .u64 0, .int .u64 0, .int .u64 0, .int .u64 0, .int .u64 0, .int .u64 0, .int .u64 0, .int .u64 0, .int .u64 0, .int .u64 0, .int .u64 0, .int .u64 0, .int .u64 0, .int .u64 0, .int .u64 0, .int .u64 0, .int .u64 0, .int .u64 0, .int .u64 0, .int .u64 0, .int .u64 0, .int .u64 0, .int .u64 0, .int .u64 0, .int .u64 0, .int .u64 0, .int .u64 0, .int .u64 0, .int .u64 0, .int .u64 0, .int .u64 0, .int .u64 0, .int .u64 0, .int .u64 0, .int .u64 0, .int .u64 0, .int .u64 0, .int .u64 0, .int .u64 0, .int .u64 0, .int .u64 0, .int .u64 0, .int .u64 0, .bool false, .bool false, .bool false, .bool false, .bool false, .bool false, .bool false, .bool false, .bool false, .bool false, .bool false, .bool false, .bool false, .bool false, .bool false, .bool false, .bool false, .bool false, .bool false, .bool false, .bool false, .bool false, .bool false, .bool false, .bool false, .bool false, .bool false, .bool false, .bool false, .bool false, .bool false, .bool false, .bool false, .bool false, .bool false, .bool false, .bool false, .bool false, .bool false, .bool false, .bool false, .bool false, .bool false, .bool false, .bool false, .bool false, .bool false, .bool false, .bool false, .bool false, .bool false, .bool false, .bool false, .bool false, .bool false, .bool false, .bool false, .bool false, .bool false, .bool false, .bool false, .bool false, .bool false, .bool false, .bool false]) := by kernel_rfl
def rtC (r : Rt) : List AV := [.int r.nd, .int r.via, .v (.int .u64 r.c)]
abbrev rtA (r : Rt) : AV := .agg (rtC r)
def distC (s : DS) : List AV := arrF 65 (fun x => [u64A x]) s.2 ++ arrF 65 (fun x => [boA x]) s.1
theorem distC_len2 (f : Int → Bool) (d : Int → Int) : (arrF 65 (fun x => [u64A x]) d ++ arrF 65 (fun x => [boA x]) f).length = 130 := by rw [List.length_append, arrF_len one_len, arrF_len one_len]
theorem distC_len (s : DS) : (distC s).length = 130 := distC_len2 s.1 s.2
theorem distC_one (s : DS) : oneOf (.agg (distC s)) = true := by rfl
theorem rnd_none {l : List Arc} {s : DS} (h : s.1 = fun _ => false) : rndD l s = s := by
  have key : ∀ (m : List Arc), m.foldl rlx s = s := fun m => by
    induction m with
    | nil => rfl
    | cons a m ih => rw [List.foldl_cons, show rlx s a = s by unfold rlx; rw [h]; simp]; exact ih
  exact key l
theorem add_far {a b : Int} (h : a + b ≤ 18446744073709551615) : addS a b = a + b := by unfold addS farI; rw [if_neg (by omega)]
/- waymarkref22.Add -/
set_option maxRecDepth 100000 in
set_option maxHeartbeats 1000000 in
theorem ref22_Add {a b : Int} (ha : 0 ≤ a) (hb : 0 ≤ b) (ha2 : a ≤ 18446744073709551615) (hb2 : b ≤ 18446744073709551615) : Triple Try.prog 47 [.v (.int .u64 a), .v (.int .u64 b)] [] (Is (.v (.int .u64 (addS a b))) []) := by
  have e1 : a.tmod 4294967296 = a % 4294967296 := Int.tmod_eq_emod_of_nonneg ha
  have e2 : b.tmod 4294967296 = b % 4294967296 := Int.tmod_eq_emod_of_nonneg hb
  have e3 : a.tdiv 4294967296 = a / 4294967296 := Int.tdiv_eq_ediv_of_nonneg ha
  have e4 : b.tdiv 4294967296 = b / 4294967296 := Int.tdiv_eq_ediv_of_nonneg hb
  refine triple_of Try.func47 rfl (by kernel_rfl) rfl (by simp) ?_
  refine aSeq ?_
  refine aReg ?_
  refine sp pMa ?_
  refine oNil ?_
  refine aSeq ?_
  refine aReg ?_
  refine sp pM ?_
  refine sp (pRem rfl rfl rfl (by first | decide | omega)) ?_
  rw [e1]
  refine sp pM ?_
  refine sp (pRem rfl rfl rfl (by first | decide | omega)) ?_
  rw [e2]
  refine sp (by first | exact pAdK | exact pB) ?_
  refine sp pMa ?_
  refine oNil ?_
  refine aSeq ?_
  refine aReg ?_
  refine sp pM ?_
  refine sp (pQuo rfl rfl rfl (by first | decide | omega)) ?_
  rw [e3, wrap_u64 (by omega) (by omega)]
  refine sp pM ?_
  refine sp (pQuo rfl rfl rfl (by first | decide | omega)) ?_
  rw [e4, wrap_u64 (by omega) (by omega)]
  refine sp (by first | exact pAdK | exact pB) ?_
  refine sp pM ?_
  refine sp (pQuo rfl rfl rfl (by first | decide | omega)) ?_
  rw [Int.tdiv_eq_ediv_of_nonneg (by omega), wrap_u64 (by omega) (by omega)]
  refine sp (by first | exact pAdK | exact pB) ?_
  refine sp pMa ?_
  refine oNil ?_
  refine aSeq ?_
  refine aSeq ?_
  refine aReg ?_
  refine sp pM ?_
  refine sp pB ?_
  refine oNil ?_
  refine aCondDec rfl (fun c21 => ?_) (fun c21 => ?_)
  · skip
    refine aSeq ?_
    refine aReg ?_
    refine sp pMa ?_
    refine oNil ?_
    refine aRet ?_
    refine finIs rfl ?_
    show AV.v _ = AV.v _
    unfold addS farI
    rw [if_pos (by omega)]
  · skip
    refine aSkip ?_
    refine aSeq ?_
    refine aReg ?_
    refine sp pM ?_
    refine sp (by first | exact pMuK | exact pB) ?_
    refine sp pM ?_
    refine sp (pRem rfl rfl rfl (by first | decide | omega)) ?_
    rw [Int.tmod_eq_emod_of_nonneg (by omega)]
    refine sp (by first | exact pAdK | exact pB) ?_
    refine sp pMa ?_
    refine oNil ?_
    refine aRet ?_
    refine finIs rfl ?_
    show AV.v _ = AV.v _
    unfold addS farI
    rw [if_neg (by omega)]
    congr 2
    omega
/- waymarkref25.From -/
def ref25_From_r13_T : Bool × List (List Nat × List Nat) := (true, [([], []), ([0], [0]), ([], []), ([2, 1], [1, 2]), ([3], [3]), ([], []), ([5], [5]), ([6], [6]), ([4, 7], [4, 7]), ([8, 8, 0, 1, 2, 3, 4, 5, 6, 7, 8], [8])])
def ref25_From_r13_B : List Nat := [0, 1, 0, 7, 15, 0, 32, 96, 255, 511]
theorem ref25_From_r13_t : Go.Proofs.YtmcannmjielalaaW.PrintLast.rtab .any (Go.Proofs.YtmcannmjielalaaW.PrintLast.opsOf Try.f129 13) = ref25_From_r13_T := by kernel_rfl
theorem ref25_From_r13_b : Go.Proofs.YtmcannmjielalaaW.PrintLast.waitsOk ref25_From_r13_T.2 ref25_From_r13_B = true := by kernel_rfl
set_option maxRecDepth 100000 in
set_option maxHeartbeats 2000000 in
theorem ref25_From {l : List Arc} {r : Int} (hl : l.length ≤ 1000000) (hok : ∀ a ∈ l, AOk a) : Triple Try.prog 129 [.sl 3 (l.map arcC), .int r] [] (Is (.agg (distC (bfD l r))) []) := by
  refine triple_ofR Try.func129 rfl (by kernel_rfl) rfl (by simp) ?_
  refine aSeq ?_
  refine aReg ?_
  refine sq ?_
  refine qAlloc rfl rfl (by decide) ze_172 rfl (fun b4 => ?_)
  refine oNil ?_
  refine aSeq ?_
  refine aReg ?_
  refine sp (pBuild rfl st_172 ze_172 rfl rfl rfl rfl) ?_
  refine sq ?_
  refine qAlloc rfl rfl (by decide) ze_172 rfl (fun b5 => ?_)
  refine sa ?_
  refine oStW rfl rfl rfl rfl (by repeat constructor) ty_172 ?_
  refine oNil ?_
  refine aSeq ?_
  refine aSeq ?_
  refine aWeak (weak_box (b := b5) (cs' := arrF 65 (fun x => [u64A x]) (fun _ => 0) ++ arrF 65 (fun x => [boA x]) (fun _ => false)) (by repeat constructor) (by kernel_rfl)) ?_
  refine aReg ?_
  refine sp pM ?_
  refine sp pB ?_
  refine sp pM ?_
  refine oSplitDec 14 rfl (fun c14 => ?_) (fun c14 => ?_)
  · skip
    refine gf ?_
    refine gf ?_
    refine sp pK ?_
    refine oNil ?_
    refine aCondT rfl ?_
    refine aSeq ?_
    refine aReg ?_
    refine sr (rBW ty_172 (hn := distC_len2 _ _)) ?_
    refine sa ?_
    refine oStW (av := .agg (arrF 65 (fun x => [u64A x]) _ ++ arrF 65 (fun x => [boA x]) _)) (hn := distC_len2 _ _) rfl rfl rfl rfl (by repeat constructor) ty_172 ?_
    refine oNil ?_
    refine aRet ?_
    refine finRIs (l := [.agg (arrF 65 (fun x => [u64A x]) (fun _ => 0) ++ arrF 65 (fun x => [boA x]) (fun _ => false))]) (.cons (.cellA rfl (by repeat (first | exact List.mem_cons_self | apply List.mem_cons_of_mem)) (by rw [distC_len2]; exact ty_172)) .nil) ?_
    have hno : bfD l r = (fun _ => false, fun _ => 0) := by
      unfold bfD
      rw [satD_fix]
      · unfold ini; rw [if_neg (by omega)]
      · exact rnd_none (by unfold ini; rw [if_neg (by omega)])
    rw [hno]
    rfl
  · skip
    refine gp pM ?_
    refine gp pB ?_
    refine sp pK ?_
    refine oNil ?_
    refine aCondDec rfl (fun c17 => ?_) (fun c17 => ?_)
    · skip
      refine aSeq ?_
      refine aReg ?_
      refine sr (rBW ty_172 (hn := distC_len2 _ _)) ?_
      refine sa ?_
      refine oStW (av := .agg (arrF 65 (fun x => [u64A x]) _ ++ arrF 65 (fun x => [boA x]) _)) (hn := distC_len2 _ _) rfl rfl rfl rfl (by repeat constructor) ty_172 ?_
      refine oNil ?_
      refine aRet ?_
      refine finRIs (l := [.agg (arrF 65 (fun x => [u64A x]) (fun _ => 0) ++ arrF 65 (fun x => [boA x]) (fun _ => false))]) (.cons (.cellA rfl (by repeat (first | exact List.mem_cons_self | apply List.mem_cons_of_mem)) (by rw [distC_len2]; exact ty_172)) .nil) ?_
      have hno : bfD l r = (fun _ => false, fun _ => 0) := by
        unfold bfD
        rw [satD_fix]
        · unfold ini; rw [if_neg (by omega)]
        · exact rnd_none (by unfold ini; rw [if_neg (by omega)])
      rw [hno]
      rfl
    · skip
      refine aSkip ?_
      refine aSeq ?_
      refine aReg ?_
      refine sp pM ?_
      refine sp (pFb fd_172_1) ?_
      refine sp (pIa ar_170) ?_
      refine sa ?_
      first | refine oAr rfl rfl rfl (by repeat constructor) ty_4 ?_ | refine oArL rfl rfl rfl (by repeat constructor) ty_4 ?_ | refine oArR rfl rfl rfl (by repeat constructor) (by first | rfl | exact arrF_len one_len) ty_4 ?_ | refine oStB rfl rfl rfl rfl (by repeat constructor) ty_4 rfl (Nat.le_of_ble_eq_true rfl) rfl ?_
      refine oNil ?_
      refine aSeq ?_
      refine aSeq ?_
      refine aReg ?_
      refine sp pMa ?_
      refine oNil ?_
      refine aBlock ?_
      refine loopF (α := Nat × (Int → Int) × (Int → Bool)) (kept := [(0, _), (4, _), (5, _)]) (fun (q, d, f) => q ≤ 65 ∧ satD l (65 - q) (f, d) = bfD l r ∧ Bd (q * l.length) (f, d)) (fun (q, d, f) => [(6, .int q)]) (fun (q, d, f) => [.box b5 (arrF 65 (fun x => [u64A x]) d ++ arrF 65 (fun x => [boA x]) f)]) (fun (q, d, f) => 65 - q) (0, fun _ => 0, updF (fun _ => false) r true) ?_ ⟨gInt rfl (by first | rfl | omega | simp), rfl, rfl, rfl, trivial⟩ (by repeat constructor) ?_
      · skip
        exact ⟨by omega, by show _ = satD l 65 (ini r); unfold ini; rw [if_pos (by omega)], fun v => ⟨Int.le_refl _, by simp⟩⟩
      · rintro ⟨q, d, f⟩ ⟨hq, hsat, hbd0⟩
        refine aSeq ?_
        refine aSeq ?_
        refine aReg ?_
        refine sp pM ?_
        refine sp pB ?_
        refine oNil ?_
        refine aCondDec rfl (fun c23 => ?_) (fun c23 => ?_)
        · skip
          refine aSkip ?_
          refine aSeq ?_
          refine aBlock ?_
          refine aSeq ?_
          refine aReg ?_
          refine sp pMa ?_
          refine oNil ?_
          refine aSeq ?_
          refine aSeq ?_
          refine aReg ?_
          refine sp pMa ?_
          refine oNil ?_
          refine aBlock ?_
          refine loopF (α := Nat × (Int → Int) × (Int → Bool) × Bool) (kept := [(0, _), (4, _), (5, _), (6, _)]) (fun (i, e', g', t) => i ≤ l.length ∧ (l.drop i).foldl rlx (g', e') = rndD l (f, d) ∧ (t = false → (g', e') = (f, d)) ∧ Bd (q * l.length + i) (g', e')) (fun (i, e', g', t) => [(8, .int i), (7, .v (.bool t))]) (fun (i, e', g', t) => [.box b5 (arrF 65 (fun x => [u64A x]) e' ++ arrF 65 (fun x => [boA x]) g')]) (fun (i, e', g', t) => l.length - i) (0, d, f, false) ?_ ⟨gInt rfl (by first | rfl | omega | simp), rfl, rfl, rfl, rfl, rfl, trivial⟩ (by repeat constructor) ?_
          · skip
            exact ⟨by omega, rfl, fun _ => rfl, hbd0⟩
          · rintro ⟨i, e', g', t⟩ ⟨hi, hv, hch, hbd⟩
            refine aSeq ?_
            refine aSeq ?_
            refine aReg ?_
            refine sp pM ?_
            refine sp pM ?_
            refine sp (by first | exact pLm sl_22 | exact pLs sl_22) ?_
            refine sp pB ?_
            refine oNil ?_
            refine aCondDec rfl (fun c29 => ?_) (fun c29 => ?_)
            · skip
              refine aSkip ?_
              refine aSeq ?_
              refine aBlock ?_
              refine aSeq ?_
              obtain ⟨x, hx⟩ : ∃ a, l[i]? = some a := ⟨_, List.getElem?_eq_getElem (by omega)⟩
              have hxk := hok x (List.mem_of_getElem? hx)
              unfold AOk at hxk
              have hbx := hbd x.f
              simp only at hbx
              have hqi : q * l.length + i ≤ 66000000 := by have := Nat.mul_le_mul_right l.length (show q ≤ 64 by omega); omega
              refine aReg ?_
              refine sp pM ?_
              refine sp pM ?_
              first | refine sp (pIx es_22) ?_ | (refine obtSN 32 33 rfl rfl (by omega) (fun x34 hx34 => ?_); refine sp (pIs es_22 hx34) ?_) | (refine obtS 32 33 rfl rfl (by omega) (by omega) (fun x34 hx34 => ?_); refine sp (pIs es_22 hx34) ?_) | refine sp (pIo es_22) ?_
              refine sr (by first | exact rSW ty_36 rfl | exact rSA ty_36) ?_
              refine sq ?_
              refine qAlloc rfl rfl (by decide) ze_36 rfl (fun b9 => ?_)
              refine sa ?_
              refine oStW rfl rfl rfl rfl (by repeat constructor) ty_36 ?_
              refine oNil ?_
              refine aSeq ?_
              refine aDrawT ref25_From_r13_t ref25_From_r13_b [] 10 #[false, false, false, false, false, false, false, false, false, false] (by kernel_rfl) rfl rfl (fun HT => ?_)
              refine dp HT 0 rfl (pFb fd_36_0) ?_
              refine dr HT 1 rfl (rB1 ty_3) ?_
              refine dp HT 2 rfl (pFb fd_172_0) ?_
              refine dp HT 3 rfl (pIa ar_169) ?_
              refine dr HT 4 rfl (by first | exact rAr ty_37 | exact rArL ty_37 | exact rArR2 ty_37 | exact rB1 ty_37) ?_
              refine dp HT 5 rfl (pFb fd_36_2) ?_
              refine dr HT 6 rfl (rB1 ty_3) ?_
              refine dp HT 7 rfl (by first | exact pCvK ik_3 ik_37 | exact pConv rfl rfl ik_3 ik_37 rfl) ?_
              refine dGo ?_
              refine e1 HT 8 rfl ?_
              refine cv rfl rfl rfl (lents_refl _) (ref22_Add (by omega) (by omega) (by omega) (by omega)) ?_
              rw [add_far (by omega)]
              refine ef HT 9 rfl pMa ?_
              refine eE HT ?_
              clear HT
              refine aSeq ?_
              refine aReg ?_
              refine sp (pFb fd_36_0) ?_
              refine sr (rB1 ty_3) ?_
              refine sp (pFb fd_172_1) ?_
              refine sp (pIa ar_170) ?_
              refine sr (by first | exact rAr ty_4 | exact rArL ty_4 | exact rArR2 ty_4 | exact rB1 ty_4) ?_
              refine sp pM ?_
              refine oSplit 50 rfl (fun c50 => ?_) (fun c50 => ?_)
              · skip
                refine gp (pFb fd_36_1) ?_
                refine gr (rB1 ty_3) ?_
                refine gp (pFb fd_172_1) ?_
                refine gp (pIa ar_170) ?_
                refine gr (by first | exact rAr ty_4 | exact rArL ty_4 | exact rArR2 ty_4 | exact rB1 ty_4) ?_
                refine gp pNo ?_
                refine gp pM ?_
                refine oSplitNot 57 rfl (fun c57 => ?_) (fun c57 => ?_)
                · skip
                  refine gf ?_
                  refine gf ?_
                  refine gf ?_
                  refine gf ?_
                  refine gf ?_
                  refine gf ?_
                  refine gf ?_
                  refine gp pK ?_
                  refine sp pK ?_
                  refine oNil ?_
                  refine aCondT rfl ?_
                  refine aSeq ?_
                  refine aReg ?_
                  refine sp (pFb fd_36_1) ?_
                  refine sr (rB1 ty_3) ?_
                  refine sp (pFb fd_172_1) ?_
                  refine sp (pIa ar_170) ?_
                  refine sa ?_
                  first | refine oAr rfl rfl rfl (by repeat constructor) ty_4 ?_ | refine oArL rfl rfl rfl (by repeat constructor) ty_4 ?_ | refine oArR rfl rfl rfl (by repeat constructor) (by first | rfl | exact arrF_len one_len) ty_4 ?_ | refine oStB rfl rfl rfl rfl (by repeat constructor) ty_4 rfl (Nat.le_of_ble_eq_true rfl) rfl ?_
                  refine oNil ?_
                  refine aSeq ?_
                  refine aReg ?_
                  refine sp (pFb fd_36_1) ?_
                  refine sr (rB1 ty_3) ?_
                  refine sp pM ?_
                  refine sp (pFb fd_172_0) ?_
                  refine sp (pIa ar_169) ?_
                  refine sa ?_
                  first | refine oAr rfl rfl rfl (by repeat constructor) ty_37 ?_ | refine oArL rfl rfl rfl (by repeat constructor) ty_37 ?_ | refine oArR rfl rfl rfl (by repeat constructor) (by first | rfl | exact arrF_len one_len) ty_37 ?_ | refine oStB rfl rfl rfl rfl (by repeat constructor) ty_37 rfl (Nat.le_of_ble_eq_true rfl) rfl ?_
                  refine oNil ?_
                  refine aReg ?_
                  refine sp pMa ?_
                  refine oNil ?_
                  refine aReg ?_
                  refine sp pM ?_
                  refine sp pAd ?_
                  refine sp pMa ?_
                  refine oNil ?_
                  refine ⟨(i + 1, _, _, _), ?_, by (try dsimp only); omega, ⟨gInt rfl (by first | rfl | omega | simp), rfl, rfl, rfl, rfl, rfl, trivial⟩, _, (by repeat constructor)⟩
                  rw [drop_step hx, List.foldl_cons] at hv
                  have hb1 := rlx_bd (a := x) (by unfold AOk; omega) hbd
                  rw [show q * l.length + i + 1 = q * l.length + (i + 1) by omega] at hb1
                  first
                    | (have hr : rlx (g', e') x = (g', e') := by unfold rlx; rw [if_neg (by simp_all)]
                       rw [hr] at hv hb1
                       exact ⟨by omega, hv, hch, hb1⟩)
                    | (have hr : rlx (g', e') x = (updF g' x.t true, updF e' x.t (e' x.f + x.c)) := by unfold rlx; rw [if_pos (by simp_all)]
                       rw [hr] at hv hb1
                       exact ⟨by omega, hv, fun h => by (first | cases h | simp_all), hb1⟩)
                · skip
                  refine gp pM ?_
                  refine gp (pFb fd_36_1) ?_
                  refine gr (rB1 ty_3) ?_
                  refine gp (pFb fd_172_0) ?_
                  refine gp (pIa ar_169) ?_
                  refine gr (by first | exact rAr ty_37 | exact rArL ty_37 | exact rArR2 ty_37 | exact rB1 ty_37) ?_
                  refine gp pB ?_
                  refine gp pK ?_
                  refine sp pK ?_
                  refine oNil ?_
                  refine aCondDec rfl (fun c66 => ?_) (fun c66 => ?_)
                  · skip
                    refine aSeq ?_
                    refine aReg ?_
                    refine sp (pFb fd_36_1) ?_
                    refine sr (rB1 ty_3) ?_
                    refine sp (pFb fd_172_1) ?_
                    refine sp (pIa ar_170) ?_
                    refine sa ?_
                    first | refine oAr rfl rfl rfl (by repeat constructor) ty_4 ?_ | refine oArL rfl rfl rfl (by repeat constructor) ty_4 ?_ | refine oArR rfl rfl rfl (by repeat constructor) (by first | rfl | exact arrF_len one_len) ty_4 ?_ | refine oStB rfl rfl rfl rfl (by repeat constructor) ty_4 rfl (Nat.le_of_ble_eq_true rfl) rfl ?_
                    refine oNil ?_
                    refine aSeq ?_
                    refine aReg ?_
                    refine sp (pFb fd_36_1) ?_
                    refine sr (rB1 ty_3) ?_
                    refine sp pM ?_
                    refine sp (pFb fd_172_0) ?_
                    refine sp (pIa ar_169) ?_
                    refine sa ?_
                    first | refine oAr rfl rfl rfl (by repeat constructor) ty_37 ?_ | refine oArL rfl rfl rfl (by repeat constructor) ty_37 ?_ | refine oArR rfl rfl rfl (by repeat constructor) (by first | rfl | exact arrF_len one_len) ty_37 ?_ | refine oStB rfl rfl rfl rfl (by repeat constructor) ty_37 rfl (Nat.le_of_ble_eq_true rfl) rfl ?_
                    refine oNil ?_
                    refine aReg ?_
                    refine sp pMa ?_
                    refine oNil ?_
                    refine aReg ?_
                    refine sp pM ?_
                    refine sp pAd ?_
                    refine sp pMa ?_
                    refine oNil ?_
                    refine ⟨(i + 1, _, _, _), ?_, by (try dsimp only); omega, ⟨gInt rfl (by first | rfl | omega | simp), rfl, rfl, rfl, rfl, rfl, trivial⟩, _, (by repeat constructor)⟩
                    rw [drop_step hx, List.foldl_cons] at hv
                    have hb1 := rlx_bd (a := x) (by unfold AOk; omega) hbd
                    rw [show q * l.length + i + 1 = q * l.length + (i + 1) by omega] at hb1
                    first
                      | (have hr : rlx (g', e') x = (g', e') := by unfold rlx; rw [if_neg (by simp_all)]
                         rw [hr] at hv hb1
                         exact ⟨by omega, hv, hch, hb1⟩)
                      | (have hr : rlx (g', e') x = (updF g' x.t true, updF e' x.t (e' x.f + x.c)) := by unfold rlx; rw [if_pos (by simp_all)]
                         rw [hr] at hv hb1
                         exact ⟨by omega, hv, fun h => by (first | cases h | simp_all), hb1⟩)
                  · skip
                    refine aSkip ?_
                    refine aReg ?_
                    refine sp pM ?_
                    refine sp pAd ?_
                    refine sp pMa ?_
                    refine oNil ?_
                    refine ⟨(i + 1, _, _, _), ?_, by (try dsimp only); omega, ⟨gInt rfl (by first | rfl | omega | simp), rfl, rfl, rfl, rfl, rfl, trivial⟩, _, (by repeat constructor)⟩
                    rw [drop_step hx, List.foldl_cons] at hv
                    have hb1 := rlx_bd (a := x) (by unfold AOk; omega) hbd
                    rw [show q * l.length + i + 1 = q * l.length + (i + 1) by omega] at hb1
                    first
                      | (have hr : rlx (g', e') x = (g', e') := by unfold rlx; rw [if_neg (by simp_all)]
                         rw [hr] at hv hb1
                         exact ⟨by omega, hv, hch, hb1⟩)
                      | (have hr : rlx (g', e') x = (updF g' x.t true, updF e' x.t (e' x.f + x.c)) := by unfold rlx; rw [if_pos (by simp_all)]
                         rw [hr] at hv hb1
                         exact ⟨by omega, hv, fun h => by (first | cases h | simp_all), hb1⟩)
              · skip
                refine gf ?_
                refine gf ?_
                refine gf ?_
                refine gf ?_
                refine gf ?_
                refine gf ?_
                refine gf ?_
                refine gf ?_
                refine gf ?_
                refine gf ?_
                refine gf ?_
                refine gf ?_
                refine gf ?_
                refine gf ?_
                refine gf ?_
                refine sp pK ?_
                refine oNil ?_
                refine aCondF rfl ?_
                refine aSkip ?_
                refine aReg ?_
                refine sp pM ?_
                refine sp pAd ?_
                refine sp pMa ?_
                refine oNil ?_
                refine ⟨(i + 1, _, _, _), ?_, by (try dsimp only); omega, ⟨gInt rfl (by first | rfl | omega | simp), rfl, rfl, rfl, rfl, rfl, trivial⟩, _, (by repeat constructor)⟩
                rw [drop_step hx, List.foldl_cons] at hv
                have hb1 := rlx_bd (a := x) (by unfold AOk; omega) hbd
                rw [show q * l.length + i + 1 = q * l.length + (i + 1) by omega] at hb1
                first
                  | (have hr : rlx (g', e') x = (g', e') := by unfold rlx; rw [if_neg (by simp_all)]
                     rw [hr] at hv hb1
                     exact ⟨by omega, hv, hch, hb1⟩)
                  | (have hr : rlx (g', e') x = (updF g' x.t true, updF e' x.t (e' x.f + x.c)) := by unfold rlx; rw [if_pos (by simp_all)]
                     rw [hr] at hv hb1
                     exact ⟨by omega, hv, fun h => by (first | cases h | simp_all), hb1⟩)
            · skip
              refine aExit rfl ?_
              refine aSeq ?_
              refine aReg ?_
              refine sp pM ?_
              refine sp pNo ?_
              refine oNil ?_
              refine aCondNot rfl (fun c77 => ?_) (fun c77 => ?_)
              · skip
                refine aSeq ?_
                refine aReg ?_
                refine sr (rBW ty_172 (hn := distC_len2 _ _)) ?_
                refine sa ?_
                refine oStW (av := .agg (arrF 65 (fun x => [u64A x]) _ ++ arrF 65 (fun x => [boA x]) _)) (hn := distC_len2 _ _) rfl rfl rfl rfl (by repeat constructor) ty_172 ?_
                refine oNil ?_
                refine aRet ?_
                refine finRIs (l := [.agg (arrF 65 (fun x => [u64A x]) e' ++ arrF 65 (fun x => [boA x]) g')]) (.cons (.cellA rfl (by repeat (first | exact List.mem_cons_self | apply List.mem_cons_of_mem)) (by rw [distC_len2]; exact ty_172)) .nil) ?_
                obtain rfl : i = l.length := by omega
                rw [List.drop_of_length_le (by omega)] at hv
                have h1 := hch (by assumption)
                have h2 : (g', e') = rndD l (f, d) := hv
                rw [h1] at h2
                rw [satD_fix h2.symm] at hsat
                rw [← hsat, ← h1]
                rfl
              · skip
                refine aSkip ?_
                refine aReg ?_
                refine sp pM ?_
                refine sp pAd ?_
                refine sp pMa ?_
                refine oNil ?_
                refine ⟨(q + 1, _, _), ?_, by (try dsimp only); omega, ⟨gInt rfl (by first | rfl | omega | simp), rfl, rfl, rfl, trivial⟩, _, (by repeat constructor)⟩
                obtain rfl : i = l.length := by omega
                rw [List.drop_of_length_le (by omega)] at hv
                have hv2 : (g', e') = rndD l (f, d) := hv
                refine ⟨by omega, ?_, ?_⟩
                · rw [hv2, ← hsat, show 65 - q = (65 - (q + 1)) + 1 by omega]; rfl
                · rw [Nat.add_mul, Nat.one_mul]; exact hbd
        · skip
          refine aExit rfl ?_
          refine aSeq ?_
          refine aReg ?_
          refine sr (rBW ty_172 (hn := distC_len2 _ _)) ?_
          refine sa ?_
          refine oStW (av := .agg (arrF 65 (fun x => [u64A x]) _ ++ arrF 65 (fun x => [boA x]) _)) (hn := distC_len2 _ _) rfl rfl rfl rfl (by repeat constructor) ty_172 ?_
          refine oNil ?_
          refine aRet ?_
          refine finRIs (l := [.agg (arrF 65 (fun x => [u64A x]) d ++ arrF 65 (fun x => [boA x]) f)]) (.cons (.cellA rfl (by repeat (first | exact List.mem_cons_self | apply List.mem_cons_of_mem)) (by rw [distC_len2]; exact ty_172)) .nil) ?_
          rw [show 65 - q = 0 by omega] at hsat
          rw [← hsat]
          rfl
end A
end Go.Proofs.Ytmcannmjielalaa
