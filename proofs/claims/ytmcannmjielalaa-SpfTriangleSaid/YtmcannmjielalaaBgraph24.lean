/- What functions of the program compute: graph24 -/
import Derived.Test.YtmcannmjielalaaFacts
import Derived.Test.YtmcannmjielalaaProg
import Derived.KernelRfl
set_option linter.unusedVariables false
set_option linter.unusedSimpArgs false
namespace Go.Proofs.Ytmcannmjielalaa
namespace A

theorem es_22 : elemSize Try.prog 22 = some 3 := by kernel_rfl
theorem es_25 : elemSize Try.prog 25 = some 1 := by kernel_rfl
theorem fd_36_0 : fieldOf Try.prog 36 0 = some (0, 1, false) := by kernel_rfl
theorem fd_36_1 : fieldOf Try.prog 36 1 = some (1, 1, false) := by kernel_rfl
theorem fd_36_2 : fieldOf Try.prog 36 2 = some (2, 1, false) := by kernel_rfl
theorem sl_22 : isSl Try.prog 22 = true := by kernel_rfl
theorem sl_25 : isSl Try.prog 25 = true := by kernel_rfl
theorem ty_3 : tyOf Try.prog 3 = some (1, false) := by kernel_rfl
theorem ty_36 : tyOf Try.prog 36 = some (3, true) := by kernel_rfl
theorem us_25 : Try.prog.underlying 25 = some (.slice 3) := by kernel_rfl
theorem ze_3 : zeroOf Try.prog 3 = some (.int .i64 0) := by kernel_rfl
theorem ze_36 : zeroOf Try.prog 36 = some (.agg #[.int .i64 0, .int .i64 0, .int .i64 0]) := by kernel_rfl
def cmpI (a b : Int) : Int := if a < b then -1 else if b < a then 1 else 0
def orI : List Int → Int
  | [] => 0
  | a :: l => if a ≠ 0 then a else orI l
theorem orI_drop {xs : List Int} {i : Nat} {a : Int} (h : xs[i]? = some a) : orI (xs.drop i) = if a ≠ 0 then a else orI (xs.drop (i + 1)) := by
  rw [drop_step h]
  rfl

/- cmp.isNaN[int] -/
set_option maxRecDepth 100000 in
set_option maxHeartbeats 400000 in
theorem cmp_isNaN {n : Int} : Triple Try.prog 246 [.int n] [] (Is (.v (.bool false)) []) := by
  refine triple_of Try.func246 rfl (by kernel_rfl) rfl (by simp) ?_
  refine aSeq ?_
  refine aReg ?_
  refine sp pMa ?_
  refine oNil ?_
  refine aSeq ?_
  refine aReg ?_
  refine sp pM ?_
  refine sp pM ?_
  refine sp pB ?_
  refine sp pMa ?_
  refine oNil ?_
  refine aRet ?_
  refine finIs rfl ?_
  simp [retOf]

/- cmp.Compare[int] -/
set_option maxRecDepth 100000 in
set_option maxHeartbeats 400000 in
theorem cmp_Compare {a b : Int} : Triple Try.prog 174 [.int a, .int b] [] (Is (.v (.int .i64 (cmpI a b))) []) := by
  refine triple_of Try.func174 rfl (by kernel_rfl) rfl (by simp) ?_
  refine aSeq ?_
  refine aReg ?_
  refine sp pMa ?_
  refine oNil ?_
  refine aSeq ?_
  refine aReg ?_
  refine sp pM ?_
  refine sq ?_
  refine cv rfl rfl rfl (lents_refl _) cmp_isNaN ?_
  refine sp pMa ?_
  refine oNil ?_
  refine aSeq ?_
  refine aReg ?_
  refine sp pM ?_
  refine sq ?_
  refine cv rfl rfl rfl (lents_refl _) cmp_isNaN ?_
  refine sp pMa ?_
  refine oNil ?_
  refine aSeq ?_
  refine aSeq ?_
  refine aReg ?_
  refine sp pM ?_
  refine oNil ?_
  refine aCond rfl (fun c11 => ?_) (fun c11 => ?_)
  · skip
    refine aSeq ?_
    refine aSeq ?_
    refine aReg ?_
    refine sp pM ?_
    refine oNil ?_
    refine aCond rfl (fun c12 => ?_) (fun c12 => ?_)
    · skip
      refine aSeq ?_
      refine aReg ?_
      refine sp pMa ?_
      refine oNil ?_
      refine aRet ?_
      refine finIs rfl ?_
      simp_all [retOf, cmpI] <;> omega
    · skip
      refine aSkip ?_
      refine aSeq ?_
      refine aReg ?_
      refine sp pMa ?_
      refine oNil ?_
      refine aRet ?_
      refine finIs rfl ?_
      simp_all [retOf, cmpI] <;> omega
  · skip
    refine aSkip ?_
    refine aSeq ?_
    refine aSeq ?_
    refine aReg ?_
    refine sp pM ?_
    refine oNil ?_
    refine aCond rfl (fun c13 => ?_) (fun c13 => ?_)
    · skip
      refine aSeq ?_
      refine aReg ?_
      refine sp pMa ?_
      refine oNil ?_
      refine aRet ?_
      refine finIs rfl ?_
      simp_all [retOf, cmpI] <;> omega
    · skip
      refine aSkip ?_
      refine aSeq ?_
      refine aSeq ?_
      refine aReg ?_
      refine sp pM ?_
      refine sp pM ?_
      refine sp pB ?_
      refine oNil ?_
      refine aCondDec rfl (fun c16 => ?_) (fun c16 => ?_)
      · skip
        refine aSeq ?_
        refine aReg ?_
        refine sp pMa ?_
        refine oNil ?_
        refine aRet ?_
        refine finIs rfl ?_
        simp_all [retOf, cmpI] <;> omega
      · skip
        refine aSkip ?_
        refine aSeq ?_
        refine aSeq ?_
        refine aReg ?_
        refine sp pM ?_
        refine sp pM ?_
        refine sp pB ?_
        refine oNil ?_
        refine aCondDec rfl (fun c19 => ?_) (fun c19 => ?_)
        · skip
          refine aSeq ?_
          refine aReg ?_
          refine sp pMa ?_
          refine oNil ?_
          refine aRet ?_
          refine finIs rfl ?_
          simp_all [retOf, cmpI] <;> omega
        · skip
          refine aSkip ?_
          refine aSeq ?_
          refine aReg ?_
          refine sp pMa ?_
          refine oNil ?_
          refine aRet ?_
          refine finIs rfl ?_
          simp_all [retOf, cmpI] <;> omega

/- cmp.Or[int] -/
set_option maxRecDepth 100000 in
set_option maxHeartbeats 400000 in
theorem cmp_Or (xs : List Int) (hx : xs.length ≤ 1000 := by simp) : Triple Try.prog 173 [.sl 1 (xs.map intA)] [] (Is (.v (.int .i64 (orI xs))) []) := by
  refine triple_of Try.func173 rfl (by kernel_rfl) rfl (by simp) ?_
  refine aSeq ?_
  refine aReg ?_
  refine sp pMa ?_
  refine oNil ?_
  refine aSeq ?_
  refine aReg ?_
  refine sp pMa ?_
  refine oNil ?_
  refine aSeq ?_
  refine aSeq ?_
  refine aReg ?_
  refine sp pM ?_
  refine sp (by first | exact pLm sl_25 | exact pLs sl_25) ?_
  refine sp pM ?_
  refine oNil ?_
  refine aBlock ?_
  refine loopF (α := Nat) (kept := [(3, _), (6, _), (7, _)]) (fun i => i ≤ xs.length ∧ orI (xs.drop i) = orI xs) (fun i => [(8, .int i)]) (fun i => []) (fun i => xs.length - i) 0 ?_ ⟨gInt rfl (by first | rfl | omega | simp), rfl, rfl, rfl, trivial⟩ (by repeat constructor) ?_
  · skip
    exact ⟨by omega, rfl⟩
  · rintro i ⟨hi, ho⟩
    refine aSeq ?_
    refine aReg ?_
    refine sp pB ?_
    refine oNil ?_
    refine aSeq ?_
    refine aCondDec rfl (fun c9 => ?_) (fun c9 => ?_)
    · skip
      refine aSkip ?_
      refine aSeq ?_
      refine aBlock ?_
      refine aSeq ?_
      refine aReg ?_
      first | refine sp (pIx es_25) ?_ | (refine obtSN 6 8 rfl rfl (by omega) (fun x10 hx10 => ?_); refine sp (pIs es_25 hx10) ?_) | (refine obtS 6 8 rfl rfl (by omega) (by omega) (fun x10 hx10 => ?_); refine sp (pIs es_25 hx10) ?_) | refine sp (pIo es_25) ?_
      refine sr (rS1 ty_3) ?_
      refine sp pMa ?_
      refine oNil ?_
      refine aSeq ?_
      refine aReg ?_
      refine sp pM ?_
      refine sp pM ?_
      refine sp pB ?_
      refine oNil ?_
      refine aCondNe rfl (fun c14 => ?_) (fun c14 => ?_)
      · skip
        refine aSeq ?_
        refine aReg ?_
        refine sp pM ?_
        refine sp pMa ?_
        refine oNil ?_
        refine aRet ?_
        refine finIs rfl ?_
        show AV.int _ = AV.int _
        congr 2
        first | (rw [← ho, orI_drop hx10, if_pos (by assumption)]; done) | (rw [← ho, List.drop_of_length_le (by omega)]; rfl)
      · skip
        refine aSkip ?_
        refine aReg ?_
        refine sp pAd ?_
        refine sp pM ?_
        refine oNil ?_
        refine ⟨i + 1, ?_, by (try dsimp only); omega, ⟨gInt rfl (by first | rfl | omega | simp), rfl, rfl, rfl, trivial⟩, _, (by repeat constructor)⟩
        exact ⟨by omega, by rw [← ho, orI_drop hx10]; simp_all⟩
    · skip
      refine aExit rfl ?_
      refine aSeq ?_
      refine aReg ?_
      refine sp pM ?_
      refine sp pMa ?_
      refine oNil ?_
      refine aRet ?_
      refine finIs rfl ?_
      show AV.int _ = AV.int _
      congr 2
      first | (rw [← ho, orI_drop hx10, if_pos (by assumption)]; done) | (rw [← ho, List.drop_of_length_le (by omega)]; rfl)

structure Arc where
  f : Int
  t : Int
  c : Int
  deriving DecidableEq, Inhabited
def arcC (a : Arc) : List AV := [.int a.f, .int a.t, .int a.c]
def nodeB (n : Int) : Bool := decide (1 ≤ n) && decide (n ≤ 64)
def arcB (a : Arc) : Bool := nodeB a.f && nodeB a.t && !(a.f == a.t) && decide (1 ≤ a.c) && decide (a.c ≤ 1073741824)
def ltA (x y : Arc) : Prop := x.f < y.f ∨ x.f = y.f ∧ x.t < y.t
instance (x y : Arc) : Decidable (ltA x y) := by unfold ltA; infer_instance
/-- Arcs from a place on, behind the one ahead of it. -/
def arcsB : Option Arc → List Arc → Bool
  | _, [] => true
  | p, a :: l => arcB a && (match p with | none => true | some q => decide (ltA q a)) && arcsB (some a) l
def orderA (a b : Arc) : Int := orI [cmpI a.f b.f, cmpI a.t b.t]
theorem cmpI_ne {a b : Int} : cmpI a b ≠ 0 ↔ a ≠ b := by unfold cmpI; split <;> (try split) <;> omega
theorem cmpI_lt {a b : Int} : cmpI a b < 0 ↔ a < b := by unfold cmpI; split <;> (try split) <;> omega
theorem orderA_lt {a b : Arc} : orderA a b < 0 ↔ ltA a b := by
  simp only [orderA, orI, ltA]
  have h1 := cmpI_ne (a := a.f) (b := b.f)
  have h2 := cmpI_lt (a := a.f) (b := b.f)
  have h3 := cmpI_ne (a := a.t) (b := b.t)
  have h4 := cmpI_lt (a := a.t) (b := b.t)
  split
  · omega
  · split <;> omega
def ordA (p : Option Arc) (e : Arc) : Bool := match p with | none => true | some q => decide (orderA q e < 0)
theorem arcs_step {l : List Arc} {i : Nat} {e : Arc} {p : Option Arc} (h : l[i]? = some e) : arcsB p (l.drop i) = (arcB e && ordA p e && arcsB (some e) (l.drop (i + 1))) := by
  rw [drop_step h]
  cases p with
  | none => rfl
  | some q => simp only [arcsB, ordA, orderA_lt]
theorem arcsB_all : ∀ {l : List Arc} {p : Option Arc}, arcsB p l = true → ∀ e ∈ l, arcB e = true
  | [], _, _, e, he => by simp at he
  | x :: l, p, h, e, he => by
    simp only [arcsB, Bool.and_eq_true] at h
    rcases List.mem_cons.1 he with rfl | he
    · exact h.1.1
    · exact arcsB_all h.2 e he
theorem ltA_trans {x y z : Arc} (h1 : ltA x y) (h2 : ltA y z) : ltA x z := by unfold ltA at *; omega
theorem ltA_irrefl {x : Arc} (h : ltA x x) : False := by unfold ltA at h; omega
theorem arcsB_lt : ∀ {l : List Arc} {q : Arc}, arcsB (some q) l = true → (q :: l).Pairwise ltA
  | [], q, _ => by simp
  | x :: l, q, h => by
    simp only [arcsB, Bool.and_eq_true, decide_eq_true_eq] at h
    have ih := arcsB_lt h.2
    refine List.pairwise_cons.2 ⟨fun y hy => ?_, ih⟩
    rcases List.mem_cons.1 hy with rfl | hy
    · exact h.1.2
    · exact ltA_trans h.1.2 ((List.pairwise_cons.1 ih).1 y hy)
theorem arcsB_sorted {l : List Arc} (h : arcsB none l = true) : l.Pairwise ltA := by
  cases l with
  | nil => exact .nil
  | cons x l =>
    simp only [arcsB, Bool.and_eq_true] at h
    exact arcsB_lt h.2
theorem arcsB_of : ∀ {l : List Arc} {p : Option Arc}, (∀ e ∈ l, arcB e = true) → (∀ q, p = some q → (q :: l).Pairwise ltA) → l.Pairwise ltA → arcsB p l = true
  | [], _, _, _, _ => rfl
  | x :: l, p, h1, h2, h3 => by
    simp only [arcsB, Bool.and_eq_true]
    refine ⟨⟨h1 x (by simp), ?_⟩, arcsB_of (fun e he => h1 e (by simp [he])) (fun q hq => by cases hq; exact h3) (List.pairwise_cons.1 h3).2⟩
    cases p with
    | none => rfl
    | some q => exact decide_eq_true ((List.pairwise_cons.1 (h2 q rfl)).1 x (by simp))
def AOk (a : Arc) : Prop := 1 ≤ a.f ∧ a.f ≤ 64 ∧ 1 ≤ a.t ∧ a.t ≤ 64 ∧ a.f ≠ a.t ∧ 1 ≤ a.c ∧ a.c ≤ 1073741824
theorem AOk.of {a : Arc} (h : arcB a = true) : AOk a := by
  simp only [arcB, nodeB, Bool.and_eq_true, decide_eq_true_eq, Bool.not_eq_true', beq_eq_false_iff_ne] at h
  unfold AOk
  omega
theorem arcs_ok {l : List Arc} (h : arcsB none l = true) : ∀ a ∈ l, AOk a := fun a ha => AOk.of (arcsB_all h a ha)
theorem arcs_uniq {l : List Arc} (h : arcsB none l = true) {x y : Arc} (hx : x ∈ l) (hy : y ∈ l) (e1 : x.f = y.f) (e2 : x.t = y.t) : x = y := Classical.byContradiction fun hne => by
  have hp := List.pairwise_iff_getElem.1 (arcsB_sorted h)
  rcases List.getElem_of_mem hx with ⟨i, hi, rfl⟩
  rcases List.getElem_of_mem hy with ⟨j, hj, rfl⟩
  rcases Nat.lt_trichotomy i j with h | h | h
  · have := hp i j hi hj h; unfold ltA at this; omega
  · subst h; exact hne rfl
  · have := hp j i hj hi h; unfold ltA at this; omega

/- graph.node -/
set_option maxRecDepth 100000 in
set_option maxHeartbeats 400000 in
theorem graph_node {n : Int} : Triple Try.prog 120 [.int n] [] (Is (.v (.bool (nodeB n))) []) := by
  refine triple_of Try.func120 rfl (by kernel_rfl) rfl (by simp) ?_
  refine aSeq ?_
  refine aReg ?_
  refine sp pMa ?_
  refine oNil ?_
  refine aSeq ?_
  refine aReg ?_
  refine sp pM ?_
  refine sp pB ?_
  refine sp pM ?_
  refine oSplitDec 5 rfl (fun c5 => ?_) (fun c5 => ?_)
  · skip
    refine gp pM ?_
    refine gp pB ?_
    refine sp pK ?_
    refine sp pMa ?_
    refine oNil ?_
    refine aRet ?_
    refine finIs rfl ?_
    simp [retOf, nodeB]
    omega
  · skip
    refine gf ?_
    refine gf ?_
    refine sp pK ?_
    refine sp pMa ?_
    refine oNil ?_
    refine aRet ?_
    refine finIs rfl ?_
    simp [retOf, nodeB]
    omega

/- graph.order -/
def graph_order_r1_T : Bool × List (List Nat × List Nat) := (true, [([], []), ([0], [0]), ([], []), ([2], [2]), ([1, 3], [1, 3]), ([], []), ([5], [5]), ([], []), ([7], [7]), ([6, 8, 4], [6, 8]), ([4, 9], [4, 9]), ([10, 9], [10]), ([11, 11, 0, 1, 2, 3, 4, 5, 6, 7, 8, 9, 10, 11], [11])])
def graph_order_r1_B : List Nat := [0, 1, 0, 4, 15, 0, 32, 0, 128, 511, 1023, 2047, 4095]
theorem graph_order_r1_t : Go.Proofs.YtmcannmjielalaaW.PrintLast.rtab .any (Go.Proofs.YtmcannmjielalaaW.PrintLast.opsOf Try.f121 1) = graph_order_r1_T := by kernel_rfl
theorem graph_order_r1_b : Go.Proofs.YtmcannmjielalaaW.PrintLast.waitsOk graph_order_r1_T.2 graph_order_r1_B = true := by kernel_rfl
set_option maxRecDepth 100000 in
set_option maxHeartbeats 400000 in
theorem graph_order {a b : Arc} : Triple Try.prog 121 [.agg (arcC a), .agg (arcC b)] [] (Is (.v (.int .i64 (orderA a b))) []) := by
  refine triple_of Try.func121 rfl (by kernel_rfl) rfl (by simp) ?_
  refine aSeq ?_
  refine aReg ?_
  refine sq ?_
  refine qBox rfl rfl (by decide) rfl rfl (fun b2 => ?_)
  refine sq ?_
  refine qBox rfl rfl (by decide) rfl rfl (fun b3 => ?_)
  refine sp pMa ?_
  refine oNil ?_
  refine aSeq ?_
  refine aDrawT graph_order_r1_t graph_order_r1_b [] 13 #[false, false, false, false, false, false, false, false, false, false, false, false, false] (by kernel_rfl) rfl rfl (fun HT => ?_)
  refine dp HT 0 rfl (pFb fd_36_0) ?_
  refine dr HT 1 rfl (rB1 ty_3) ?_
  refine dp HT 2 rfl (pFb fd_36_0) ?_
  refine dr HT 3 rfl (rB1 ty_3) ?_
  refine dp HT 5 rfl (pFb fd_36_1) ?_
  refine dr HT 6 rfl (rB1 ty_3) ?_
  refine dp HT 7 rfl (pFb fd_36_1) ?_
  refine dr HT 8 rfl (rB1 ty_3) ?_
  refine dGo ?_
  refine e1 HT 4 rfl ?_
  refine cv rfl rfl rfl (lents_refl _) cmp_Compare ?_
  refine e1 HT 9 rfl ?_
  refine cv rfl rfl rfl (lents_refl _) cmp_Compare ?_
  refine e1 HT 10 rfl ?_
  refine qLit (l := [_, _]) rfl rfl (by decide) us_25 ty_3 ze_3 rfl (by decide) (by decide) rfl rfl rfl (fun b15 => ?_)
  refine e1 HT 11 rfl ?_
  refine cv rfl rfl rfl (by repeat (first | exact .nil | refine .cons (.sl (by repeat (first | exact List.mem_cons_self | apply List.mem_cons_of_mem)) (by first | rfl | simp)) ?_ | refine .cons (.same _) ?_)) (cmp_Or [cmpI a.f b.f, cmpI a.t b.t]) ?_
  refine ePure (i := 12) #[true, true, true, true, true, true, true, true, true, true, true, true, true] rfl rfl rfl (HT.any (by kernel_rfl)) (by exact pMa) (by decide) ?_
  refine eE HT ?_
  clear HT
  refine aRet ?_
  refine finIs rfl ?_
  rfl

/- graph.Check -/
def graph_Check_r4_T : Bool × List (List Nat × List Nat) := (true, [([], []), ([0], [0]), ([1], [1]), ([2], [2]), ([3, 2], [3]), ([4], [4]), ([5, 4], [4, 5]), ([6, 4, 4], [4, 6]), ([7, 4], [4, 7]), ([4, 8], [4, 8]), ([9, 7], [9]), ([10], [10]), ([11, 10], [10, 11]), ([10], [10]), ([13, 10], [10, 13]), ([12, 14, 10], [10, 12, 14]), ([10, 15], [10, 15]), ([16, 10], [16]), ([17], [17]), ([18, 17], [17, 18]), ([19, 17], [17, 19]), ([17, 20], [17, 20]), ([21, 17], [21]), ([22], [22]), ([23, 22], [22, 23]), ([24, 22], [22, 24]), ([22, 25], [22, 25]), ([26, 22], [26]), ([27], [27]), ([28, 27], [27, 28]), ([29, 27, 27], [27, 29]), ([30], [30]), ([30], [30]), ([32, 30], [30, 32]), ([31, 33, 30], [30, 31, 33]), ([34, 30], [30, 34]), ([30], [30]), ([35, 36, 30, 30], [30, 35, 36]), ([37, 30], [30, 37]), ([30, 38, 27], [27, 30, 38]), ([27, 39], [27, 39])])
def graph_Check_r4_B : List Nat := [0, 1, 3, 7, 15, 31, 63, 127, 255, 511, 1023, 2047, 4095, 2047, 10239, 32767, 65535, 131071, 262143, 524287, 1048575, 2097151, 4194303, 8388607, 16777215, 33554431, 67108863, 134217727, 268435455, 536870911, 1073741823, 2147483647, 2147483647, 6442450943, 17179869183, 34359738367, 2147483647, 137438953471, 274877906943, 549755813887, 1099511627775]
theorem graph_Check_r4_t : Go.Proofs.YtmcannmjielalaaW.PrintLast.rtab .any (Go.Proofs.YtmcannmjielalaaW.PrintLast.opsOf Try.f30 4) = graph_Check_r4_T := by kernel_rfl
theorem graph_Check_r4_b : Go.Proofs.YtmcannmjielalaaW.PrintLast.waitsOk graph_Check_r4_T.2 graph_Check_r4_B = true := by kernel_rfl
set_option maxRecDepth 100000 in
set_option maxHeartbeats 2000000 in
theorem graph_Check {l : List Arc} (hl : l.length ≤ 1000000 := by omega) : Triple Try.prog 30 [.sl 3 (l.map arcC)] [] (Is (.v (.int .i64 (if arcsB none l then 0 else 1))) []) := by
  refine triple_of Try.func30 rfl (by kernel_rfl) rfl (by simp) ?_
  refine aSeq ?_
  refine aReg ?_
  refine sp pMa ?_
  refine oNil ?_
  refine aSeq ?_
  refine aSeq ?_
  refine aReg ?_
  refine sp pM ?_
  refine sp (by first | exact pLm sl_22 | exact pLs sl_22) ?_
  refine sp pM ?_
  refine oNil ?_
  refine aBlock ?_
  refine loopF (α := Nat) (kept := [(0, _), (5, _), (6, _)]) (fun i => i ≤ l.length ∧ arcsB none l = arcsB (prevA l i) (l.drop i)) (fun i => [(7, .int i)]) (fun i => []) (fun i => l.length - i) 0 ?_ ⟨gInt rfl (by first | rfl | omega | simp), rfl, rfl, rfl, trivial⟩ (by repeat constructor) ?_
  · skip
    exact ⟨by omega, rfl⟩
  · rintro i ⟨hi, hv⟩
    refine aSeq ?_
    refine aReg ?_
    refine sp pB ?_
    refine oNil ?_
    refine aSeq ?_
    refine aCondDec rfl (fun c8 => ?_) (fun c8 => ?_)
    · skip
      refine aSkip ?_
      refine aSeq ?_
      refine aBlock ?_
      refine aSeq ?_
      refine aReg ?_
      refine sp pM ?_
      first | refine sp (pIx es_22) ?_ | (refine obtSN 5 7 rfl rfl (by omega) (fun x10 hx10 => ?_); refine sp (pIs es_22 hx10) ?_) | (refine obtS 5 7 rfl rfl (by omega) (by omega) (fun x10 hx10 => ?_); refine sp (pIs es_22 hx10) ?_) | refine sp (pIo es_22) ?_
      refine sr (by first | exact rSW ty_36 rfl | exact rSA ty_36) ?_
      refine sq ?_
      refine qAlloc rfl rfl (by decide) ze_36 rfl (fun b4 => ?_)
      refine sp pMa ?_
      refine sa ?_
      refine oStW rfl rfl rfl rfl (by repeat constructor) ty_36 ?_
      refine oNil ?_
      refine aSeq ?_
      have hprev : 0 < i → ∃ b, l[((i : Int) - 1).toNat]? = some b := fun h => ⟨_, List.getElem?_eq_getElem (by omega)⟩
      refine aDrawT graph_Check_r4_t graph_Check_r4_b [] 41 #[false, false, false, false, false, false, false, false, false, false, false, false, false, false, false, false, false, false, false, false, false, false, false, false, false, false, false, false, false, false, false, false, false, false, false, false, false, false, false, false, false] (by kernel_rfl) rfl rfl (fun HT => ?_)
      refine dp HT 0 rfl (pFb fd_36_0) ?_
      refine dr HT 1 rfl (rB1 ty_3) ?_
      refine dGo ?_
      refine e1 HT 2 rfl ?_
      refine cv rfl rfl rfl (lents_refl _) graph_node ?_
      refine ef HT 3 rfl pNo ?_
      refine ef HT 4 rfl pM ?_
      refine eSplitNot 16 rfl (fun c16 => ?_) (fun c16 => ?_)
      · skip
        refine eS HT 5 rfl ?_
        refine eS HT 6 rfl ?_
        refine eS HT 7 rfl ?_
        refine eS HT 8 rfl ?_
        refine ef HT 9 rfl pK ?_
        refine ef HT 10 rfl pM ?_
        refine eS HT 11 rfl ?_
        refine eS HT 12 rfl ?_
        refine eS HT 13 rfl ?_
        refine eS HT 14 rfl ?_
        refine eS HT 15 rfl ?_
        refine ef HT 16 rfl pK ?_
        refine ef HT 17 rfl pM ?_
        refine eS HT 18 rfl ?_
        refine eS HT 19 rfl ?_
        refine eS HT 20 rfl ?_
        refine ef HT 21 rfl pK ?_
        refine ef HT 22 rfl pM ?_
        refine eS HT 23 rfl ?_
        refine eS HT 24 rfl ?_
        refine eS HT 25 rfl ?_
        refine ef HT 26 rfl pK ?_
        refine ef HT 27 rfl pM ?_
        refine eS HT 28 rfl ?_
        refine eS HT 29 rfl ?_
        refine eS HT 30 rfl ?_
        refine eS HT 31 rfl ?_
        refine eS HT 32 rfl ?_
        refine eS HT 33 rfl ?_
        refine eS HT 34 rfl ?_
        refine eS HT 35 rfl ?_
        refine eS HT 36 rfl ?_
        refine eS HT 37 rfl ?_
        refine eS HT 38 rfl ?_
        refine eS HT 39 rfl ?_
        refine ef HT 40 rfl pK ?_
        refine eE HT ?_
        clear HT
        refine aCondT rfl ?_
        refine aSeq ?_
        refine aReg ?_
        refine sp pMa ?_
        refine oNil ?_
        refine aRet ?_
        refine finIs rfl ?_
        have hs := arcs_step (p := prevA l i) hx10
        show AV.int 1 = AV.int _
        rw [hv, hs]
        by_cases h0 : i = 0 <;> simp_all [arcB, ordA, prevA]
        all_goals (intros; omega)
      · skip
        refine epG HT 5 rfl (pFb fd_36_1) ?_
        refine erG HT 6 rfl (rB1 ty_3) ?_
        refine e1G HT 7 rfl ?_
        refine cv rfl rfl rfl (lents_refl _) graph_node ?_
        refine efG HT 8 rfl pNo ?_
        refine ef HT 9 rfl pK ?_
        refine ef HT 10 rfl pM ?_
        refine eSplitNot 22 rfl (fun c22 => ?_) (fun c22 => ?_)
        · skip
          refine eS HT 11 rfl ?_
          refine eS HT 12 rfl ?_
          refine eS HT 13 rfl ?_
          refine eS HT 14 rfl ?_
          refine eS HT 15 rfl ?_
          refine ef HT 16 rfl pK ?_
          refine ef HT 17 rfl pM ?_
          refine eS HT 18 rfl ?_
          refine eS HT 19 rfl ?_
          refine eS HT 20 rfl ?_
          refine ef HT 21 rfl pK ?_
          refine ef HT 22 rfl pM ?_
          refine eS HT 23 rfl ?_
          refine eS HT 24 rfl ?_
          refine eS HT 25 rfl ?_
          refine ef HT 26 rfl pK ?_
          refine ef HT 27 rfl pM ?_
          refine eS HT 28 rfl ?_
          refine eS HT 29 rfl ?_
          refine eS HT 30 rfl ?_
          refine eS HT 31 rfl ?_
          refine eS HT 32 rfl ?_
          refine eS HT 33 rfl ?_
          refine eS HT 34 rfl ?_
          refine eS HT 35 rfl ?_
          refine eS HT 36 rfl ?_
          refine eS HT 37 rfl ?_
          refine eS HT 38 rfl ?_
          refine eS HT 39 rfl ?_
          refine ef HT 40 rfl pK ?_
          refine eE HT ?_
          clear HT
          refine aCondT rfl ?_
          refine aSeq ?_
          refine aReg ?_
          refine sp pMa ?_
          refine oNil ?_
          refine aRet ?_
          refine finIs rfl ?_
          have hs := arcs_step (p := prevA l i) hx10
          show AV.int 1 = AV.int _
          rw [hv, hs]
          by_cases h0 : i = 0 <;> simp_all [arcB, ordA, prevA]
          all_goals (intros; omega)
        · skip
          refine epG HT 11 rfl (pFb fd_36_0) ?_
          refine erG HT 12 rfl (rB1 ty_3) ?_
          refine epG HT 13 rfl (pFb fd_36_1) ?_
          refine erG HT 14 rfl (rB1 ty_3) ?_
          refine epG HT 15 rfl pB ?_
          refine ef HT 16 rfl pK ?_
          refine ef HT 17 rfl pM ?_
          refine eSplitEq 29 rfl (fun c29 => ?_) (fun c29 => ?_)
          · skip
            refine eS HT 18 rfl ?_
            refine eS HT 19 rfl ?_
            refine eS HT 20 rfl ?_
            refine ef HT 21 rfl pK ?_
            refine ef HT 22 rfl pM ?_
            refine eS HT 23 rfl ?_
            refine eS HT 24 rfl ?_
            refine eS HT 25 rfl ?_
            refine ef HT 26 rfl pK ?_
            refine ef HT 27 rfl pM ?_
            refine eS HT 28 rfl ?_
            refine eS HT 29 rfl ?_
            refine eS HT 30 rfl ?_
            refine eS HT 31 rfl ?_
            refine eS HT 32 rfl ?_
            refine eS HT 33 rfl ?_
            refine eS HT 34 rfl ?_
            refine eS HT 35 rfl ?_
            refine eS HT 36 rfl ?_
            refine eS HT 37 rfl ?_
            refine eS HT 38 rfl ?_
            refine eS HT 39 rfl ?_
            refine ef HT 40 rfl pK ?_
            refine eE HT ?_
            clear HT
            refine aCondT rfl ?_
            refine aSeq ?_
            refine aReg ?_
            refine sp pMa ?_
            refine oNil ?_
            refine aRet ?_
            refine finIs rfl ?_
            have hs := arcs_step (p := prevA l i) hx10
            show AV.int 1 = AV.int _
            rw [hv, hs]
            by_cases h0 : i = 0 <;> simp_all [arcB, ordA, prevA]
            all_goals (intros; omega)
          · skip
            refine epG HT 18 rfl (pFb fd_36_2) ?_
            refine erG HT 19 rfl (rB1 ty_3) ?_
            refine epG HT 20 rfl pB ?_
            refine ef HT 21 rfl pK ?_
            refine ef HT 22 rfl pM ?_
            refine eSplitDec 34 rfl (fun c34 => ?_) (fun c34 => ?_)
            · skip
              refine eS HT 23 rfl ?_
              refine eS HT 24 rfl ?_
              refine eS HT 25 rfl ?_
              refine ef HT 26 rfl pK ?_
              refine ef HT 27 rfl pM ?_
              refine eS HT 28 rfl ?_
              refine eS HT 29 rfl ?_
              refine eS HT 30 rfl ?_
              refine eS HT 31 rfl ?_
              refine eS HT 32 rfl ?_
              refine eS HT 33 rfl ?_
              refine eS HT 34 rfl ?_
              refine eS HT 35 rfl ?_
              refine eS HT 36 rfl ?_
              refine eS HT 37 rfl ?_
              refine eS HT 38 rfl ?_
              refine eS HT 39 rfl ?_
              refine ef HT 40 rfl pK ?_
              refine eE HT ?_
              clear HT
              refine aCondT rfl ?_
              refine aSeq ?_
              refine aReg ?_
              refine sp pMa ?_
              refine oNil ?_
              refine aRet ?_
              refine finIs rfl ?_
              have hs := arcs_step (p := prevA l i) hx10
              show AV.int 1 = AV.int _
              rw [hv, hs]
              by_cases h0 : i = 0 <;> simp_all [arcB, ordA, prevA]
              all_goals (intros; omega)
            · skip
              refine epG HT 23 rfl (pFb fd_36_2) ?_
              refine erG HT 24 rfl (rB1 ty_3) ?_
              refine epG HT 25 rfl pB ?_
              refine ef HT 26 rfl pK ?_
              refine ef HT 27 rfl pM ?_
              refine eSplitDec 39 rfl (fun c39 => ?_) (fun c39 => ?_)
              · skip
                refine eS HT 28 rfl ?_
                refine eS HT 29 rfl ?_
                refine eS HT 30 rfl ?_
                refine eS HT 31 rfl ?_
                refine eS HT 32 rfl ?_
                refine eS HT 33 rfl ?_
                refine eS HT 34 rfl ?_
                refine eS HT 35 rfl ?_
                refine eS HT 36 rfl ?_
                refine eS HT 37 rfl ?_
                refine eS HT 38 rfl ?_
                refine eS HT 39 rfl ?_
                refine ef HT 40 rfl pK ?_
                refine eE HT ?_
                clear HT
                refine aCondT rfl ?_
                refine aSeq ?_
                refine aReg ?_
                refine sp pMa ?_
                refine oNil ?_
                refine aRet ?_
                refine finIs rfl ?_
                have hs := arcs_step (p := prevA l i) hx10
                show AV.int 1 = AV.int _
                rw [hv, hs]
                by_cases h0 : i = 0 <;> simp_all [arcB, ordA, prevA]
                all_goals (intros; omega)
              · skip
                refine epG HT 28 rfl pM ?_
                refine epG HT 29 rfl pB ?_
                refine epG HT 30 rfl pM ?_
                refine eSplitDec 42 rfl (fun c42 => ?_) (fun c42 => ?_)
                · skip
                  refine epG HT 31 rfl pM ?_
                  refine epG HT 32 rfl pM ?_
                  refine epG HT 33 rfl pSu ?_
                  obtain ⟨b, hb⟩ := hprev (by omega)
                  have hb' : l[i - 1]? = some b := by rw [← hb]; congr 1; omega
                  first | refine epG HT 34 rfl (pIx es_22) ?_ | (refine obtEN 43 45 rfl rfl (by omega) (fun x46 hx46 => ?_); refine epG HT 34 rfl (pIs es_22 hx46) ?_) | (refine obtE 43 45 rfl rfl (by omega) (by omega) (fun x46 hx46 => ?_); refine epG HT 34 rfl (pIs es_22 hx46) ?_) | refine epG HT 34 rfl (pIo es_22) ?_
                  refine erG HT 35 rfl (by first | exact rSW ty_36 rfl | exact rSA ty_36) ?_
                  refine erG HT 36 rfl (by first | exact rBWa ty_36 | exact rBW ty_36 | exact rBA ty_36) ?_
                  refine e1G HT 37 rfl ?_
                  refine cv rfl rfl rfl (lents_refl _) graph_order ?_
                  refine efG HT 38 rfl pB ?_
                  refine efG HT 39 rfl pK ?_
                  refine ef HT 40 rfl pK ?_
                  refine eE HT ?_
                  clear HT
                  refine aCondDec rfl (fun c52 => ?_) (fun c52 => ?_)
                  · skip
                    refine aSeq ?_
                    refine aReg ?_
                    refine sp pMa ?_
                    refine oNil ?_
                    refine aRet ?_
                    refine finIs rfl ?_
                    have hs := arcs_step (p := prevA l i) hx10
                    show AV.int 1 = AV.int _
                    rw [hv, hs]
                    by_cases h0 : i = 0 <;> simp_all [arcB, ordA, prevA]
                    all_goals (intros; omega)
                  · skip
                    refine aSkip ?_
                    refine aReg ?_
                    refine sp pAd ?_
                    refine sp pM ?_
                    refine oNil ?_
                    refine ⟨i + 1, ?_, by (try dsimp only); omega, ⟨gInt rfl (by first | rfl | omega | simp), rfl, rfl, rfl, trivial⟩, _, (by repeat constructor)⟩
                    have hs := arcs_step (p := prevA l i) hx10
                    refine ⟨by omega, ?_⟩
                    rw [hv, hs, prevA_succ hx10]
                    by_cases h0 : i = 0 <;> simp_all [arcB, ordA, prevA]
                    all_goals (intros; omega)
                · skip
                  refine eS HT 31 rfl ?_
                  refine eS HT 32 rfl ?_
                  refine eS HT 33 rfl ?_
                  refine eS HT 34 rfl ?_
                  refine eS HT 35 rfl ?_
                  refine eS HT 36 rfl ?_
                  refine eS HT 37 rfl ?_
                  refine eS HT 38 rfl ?_
                  refine efG HT 39 rfl pK ?_
                  refine ef HT 40 rfl pK ?_
                  refine eE HT ?_
                  clear HT
                  refine aCondF rfl ?_
                  refine aSkip ?_
                  refine aReg ?_
                  refine sp pAd ?_
                  refine sp pM ?_
                  refine oNil ?_
                  refine ⟨i + 1, ?_, by (try dsimp only); omega, ⟨gInt rfl (by first | rfl | omega | simp), rfl, rfl, rfl, trivial⟩, _, (by repeat constructor)⟩
                  have hs := arcs_step (p := prevA l i) hx10
                  refine ⟨by omega, ?_⟩
                  rw [hv, hs, prevA_succ hx10]
                  by_cases h0 : i = 0 <;> simp_all [arcB, ordA, prevA]
                  all_goals (intros; omega)
    · skip
      refine aExit rfl ?_
      refine aSeq ?_
      refine aReg ?_
      refine sp pMa ?_
      refine oNil ?_
      refine aRet ?_
      refine finIs rfl ?_
      show AV.int 0 = AV.int _
      rw [hv, List.drop_of_length_le (by omega)]
      rfl

/- waymarkref24.May -/
def ref24_May_r7_T : Bool × List (List Nat × List Nat) := (true, [([], []), ([0], [0]), ([1], [1]), ([2], [2]), ([2], [2]), ([4, 2], [2, 4]), ([3, 5, 2], [2, 3, 5]), ([6, 2], [2, 6]), ([7, 2], [2, 7]), ([2], [2]), ([9, 2], [2, 9]), ([8, 10, 2], [2, 8, 10]), ([11, 2, 2], [2, 11]), ([12], [12]), ([12], [12]), ([14, 12], [12, 14]), ([13, 15, 12], [12, 13, 15]), ([16, 12], [12, 16]), ([17, 12], [12, 17]), ([12], [12]), ([19, 12], [12, 19]), ([18, 20, 12], [12, 18, 20]), ([21, 12, 12], [12, 21]), ([22], [22]), ([22], [22]), ([24, 22], [22, 24]), ([23, 25, 22], [22, 23, 25]), ([26, 22], [22, 26]), ([27, 22], [22, 27]), ([22], [22]), ([29, 22], [22, 29]), ([28, 30, 22], [22, 28, 30]), ([22, 31, 12], [12, 22, 31]), ([12, 32, 2], [2, 12, 32]), ([2, 33], [2, 33])])
def ref24_May_r7_B : List Nat := [0, 1, 3, 7, 7, 23, 63, 127, 255, 7, 519, 2047, 4095, 8191, 8191, 24575, 65535, 131071, 262143, 8191, 532479, 2097151, 4194303, 8388607, 8388607, 25165823, 67108863, 134217727, 268435455, 8388607, 545259519, 2147483647, 4294967295, 8589934591, 17179869183]
theorem ref24_May_r7_t : Go.Proofs.YtmcannmjielalaaW.PrintLast.rtab .any (Go.Proofs.YtmcannmjielalaaW.PrintLast.opsOf Try.f31 7) = ref24_May_r7_T := by kernel_rfl
theorem ref24_May_r7_b : Go.Proofs.YtmcannmjielalaaW.PrintLast.waitsOk ref24_May_r7_T.2 ref24_May_r7_B = true := by kernel_rfl
set_option maxRecDepth 100000 in
set_option maxHeartbeats 2000000 in
theorem ref24_May {l : List Arc} (hl : l.length ≤ 1000000 := by omega) : Triple Try.prog 31 [.sl 3 (l.map arcC)] [] (Is (.v (.bool (arcsB none l))) []) := by
  refine triple_of Try.func31 rfl (by kernel_rfl) rfl (by simp) ?_
  refine aSeq ?_
  refine aReg ?_
  refine sp pMa ?_
  refine oNil ?_
  refine aSeq ?_
  refine aSeq ?_
  refine aReg ?_
  refine sp pMa ?_
  refine oNil ?_
  refine aBlock ?_
  refine loopF (α := Nat) (kept := [(0, _)]) (fun i => i ≤ l.length ∧ arcsB none l = arcsB (prevA l i) (l.drop i)) (fun i => [(3, .int i)]) (fun i => []) (fun i => l.length - i) 0 ?_ ⟨gInt rfl (by first | rfl | omega | simp), rfl, trivial⟩ (by repeat constructor) ?_
  · skip
    exact ⟨by omega, rfl⟩
  · rintro i ⟨hi, hv⟩
    refine aSeq ?_
    refine aSeq ?_
    refine aReg ?_
    refine sp pM ?_
    refine sp pM ?_
    refine sp (by first | exact pLm sl_22 | exact pLs sl_22) ?_
    refine sp pB ?_
    refine oNil ?_
    refine aCondDec rfl (fun c8 => ?_) (fun c8 => ?_)
    · skip
      refine aSkip ?_
      refine aSeq ?_
      refine aBlock ?_
      refine aSeq ?_
      refine aReg ?_
      refine sp pM ?_
      refine sp pM ?_
      first | refine sp (pIx es_22) ?_ | (refine obtSN 11 12 rfl rfl (by omega) (fun x13 hx13 => ?_); refine sp (pIs es_22 hx13) ?_) | (refine obtS 11 12 rfl rfl (by omega) (by omega) (fun x13 hx13 => ?_); refine sp (pIs es_22 hx13) ?_) | refine sp (pIo es_22) ?_
      refine sr (by first | exact rSW ty_36 rfl | exact rSA ty_36) ?_
      refine sq ?_
      refine qAlloc rfl rfl (by decide) ze_36 rfl (fun b4 => ?_)
      refine sa ?_
      refine oStW rfl rfl rfl rfl (by repeat constructor) ty_36 ?_
      refine oNil ?_
      refine aSeq ?_
      refine aSeq ?_
      refine aReg ?_
      refine sp (pFb fd_36_0) ?_
      refine sr (rB1 ty_3) ?_
      refine sp pB ?_
      refine sp pM ?_
      refine oSplitDec 18 rfl (fun c18 => ?_) (fun c18 => ?_)
      · skip
        refine gf ?_
        refine gf ?_
        refine gf ?_
        refine sp pK ?_
        refine sp pM ?_
        refine gf ?_
        refine gf ?_
        refine gf ?_
        refine sp pK ?_
        refine sp pM ?_
        refine gf ?_
        refine gf ?_
        refine gf ?_
        refine sp pK ?_
        refine sp pM ?_
        refine gf ?_
        refine gf ?_
        refine gf ?_
        refine gf ?_
        refine gf ?_
        refine sp pK ?_
        refine sp pM ?_
        refine gf ?_
        refine gf ?_
        refine gf ?_
        refine sp pK ?_
        refine sp pM ?_
        refine gf ?_
        refine gf ?_
        refine gf ?_
        refine sp pK ?_
        refine oNil ?_
        refine aCondT rfl ?_
        refine aSeq ?_
        refine aReg ?_
        refine sp pMa ?_
        refine oNil ?_
        refine aRet ?_
        refine finIs rfl ?_
        have hs := arcs_step (p := prevA l i) hx13
        show AV.v (.bool false) = AV.v (.bool (arcsB none l))
        rw [hv, hs]
        by_cases h0 : i = 0 <;> simp_all [arcB, nodeB, ordA, prevA, orderA_lt, ltA]
        all_goals (intros; omega)
      · skip
        refine gp (pFb fd_36_0) ?_
        refine gr (rB1 ty_3) ?_
        refine gp pB ?_
        refine sp pK ?_
        refine sp pM ?_
        refine oSplitDec 23 rfl (fun c23 => ?_) (fun c23 => ?_)
        · skip
          refine gf ?_
          refine gf ?_
          refine gf ?_
          refine sp pK ?_
          refine sp pM ?_
          refine gf ?_
          refine gf ?_
          refine gf ?_
          refine sp pK ?_
          refine sp pM ?_
          refine gf ?_
          refine gf ?_
          refine gf ?_
          refine gf ?_
          refine gf ?_
          refine sp pK ?_
          refine sp pM ?_
          refine gf ?_
          refine gf ?_
          refine gf ?_
          refine sp pK ?_
          refine sp pM ?_
          refine gf ?_
          refine gf ?_
          refine gf ?_
          refine sp pK ?_
          refine oNil ?_
          refine aCondT rfl ?_
          refine aSeq ?_
          refine aReg ?_
          refine sp pMa ?_
          refine oNil ?_
          refine aRet ?_
          refine finIs rfl ?_
          have hs := arcs_step (p := prevA l i) hx13
          show AV.v (.bool false) = AV.v (.bool (arcsB none l))
          rw [hv, hs]
          by_cases h0 : i = 0 <;> simp_all [arcB, nodeB, ordA, prevA, orderA_lt, ltA]
          all_goals (intros; omega)
        · skip
          refine gp (pFb fd_36_1) ?_
          refine gr (rB1 ty_3) ?_
          refine gp pB ?_
          refine sp pK ?_
          refine sp pM ?_
          refine oSplitDec 28 rfl (fun c28 => ?_) (fun c28 => ?_)
          · skip
            refine gf ?_
            refine gf ?_
            refine gf ?_
            refine sp pK ?_
            refine sp pM ?_
            refine gf ?_
            refine gf ?_
            refine gf ?_
            refine gf ?_
            refine gf ?_
            refine sp pK ?_
            refine sp pM ?_
            refine gf ?_
            refine gf ?_
            refine gf ?_
            refine sp pK ?_
            refine sp pM ?_
            refine gf ?_
            refine gf ?_
            refine gf ?_
            refine sp pK ?_
            refine oNil ?_
            refine aCondT rfl ?_
            refine aSeq ?_
            refine aReg ?_
            refine sp pMa ?_
            refine oNil ?_
            refine aRet ?_
            refine finIs rfl ?_
            have hs := arcs_step (p := prevA l i) hx13
            show AV.v (.bool false) = AV.v (.bool (arcsB none l))
            rw [hv, hs]
            by_cases h0 : i = 0 <;> simp_all [arcB, nodeB, ordA, prevA, orderA_lt, ltA]
            all_goals (intros; omega)
          · skip
            refine gp (pFb fd_36_1) ?_
            refine gr (rB1 ty_3) ?_
            refine gp pB ?_
            refine sp pK ?_
            refine sp pM ?_
            refine oSplitDec 33 rfl (fun c33 => ?_) (fun c33 => ?_)
            · skip
              refine gf ?_
              refine gf ?_
              refine gf ?_
              refine gf ?_
              refine gf ?_
              refine sp pK ?_
              refine sp pM ?_
              refine gf ?_
              refine gf ?_
              refine gf ?_
              refine sp pK ?_
              refine sp pM ?_
              refine gf ?_
              refine gf ?_
              refine gf ?_
              refine sp pK ?_
              refine oNil ?_
              refine aCondT rfl ?_
              refine aSeq ?_
              refine aReg ?_
              refine sp pMa ?_
              refine oNil ?_
              refine aRet ?_
              refine finIs rfl ?_
              have hs := arcs_step (p := prevA l i) hx13
              show AV.v (.bool false) = AV.v (.bool (arcsB none l))
              rw [hv, hs]
              by_cases h0 : i = 0 <;> simp_all [arcB, nodeB, ordA, prevA, orderA_lt, ltA]
              all_goals (intros; omega)
            · skip
              refine gp (pFb fd_36_0) ?_
              refine gr (rB1 ty_3) ?_
              refine gp (pFb fd_36_1) ?_
              refine gr (rB1 ty_3) ?_
              refine gp pB ?_
              refine sp pK ?_
              refine sp pM ?_
              refine oSplitEq 40 rfl (fun c40 => ?_) (fun c40 => ?_)
              · skip
                refine gf ?_
                refine gf ?_
                refine gf ?_
                refine sp pK ?_
                refine sp pM ?_
                refine gf ?_
                refine gf ?_
                refine gf ?_
                refine sp pK ?_
                refine oNil ?_
                refine aCondT rfl ?_
                refine aSeq ?_
                refine aReg ?_
                refine sp pMa ?_
                refine oNil ?_
                refine aRet ?_
                refine finIs rfl ?_
                have hs := arcs_step (p := prevA l i) hx13
                show AV.v (.bool false) = AV.v (.bool (arcsB none l))
                rw [hv, hs]
                by_cases h0 : i = 0 <;> simp_all [arcB, nodeB, ordA, prevA, orderA_lt, ltA]
                all_goals (intros; omega)
              · skip
                refine gp (pFb fd_36_2) ?_
                refine gr (rB1 ty_3) ?_
                refine gp pB ?_
                refine sp pK ?_
                refine sp pM ?_
                refine oSplitDec 45 rfl (fun c45 => ?_) (fun c45 => ?_)
                · skip
                  refine gf ?_
                  refine gf ?_
                  refine gf ?_
                  refine sp pK ?_
                  refine oNil ?_
                  refine aCondT rfl ?_
                  refine aSeq ?_
                  refine aReg ?_
                  refine sp pMa ?_
                  refine oNil ?_
                  refine aRet ?_
                  refine finIs rfl ?_
                  have hs := arcs_step (p := prevA l i) hx13
                  show AV.v (.bool false) = AV.v (.bool (arcsB none l))
                  rw [hv, hs]
                  by_cases h0 : i = 0 <;> simp_all [arcB, nodeB, ordA, prevA, orderA_lt, ltA]
                  all_goals (intros; omega)
                · skip
                  refine gp (pFb fd_36_2) ?_
                  refine gr (rB1 ty_3) ?_
                  refine gp pB ?_
                  refine sp pK ?_
                  refine oNil ?_
                  refine aCondDec rfl (fun c49 => ?_) (fun c49 => ?_)
                  · skip
                    refine aSeq ?_
                    refine aReg ?_
                    refine sp pMa ?_
                    refine oNil ?_
                    refine aRet ?_
                    refine finIs rfl ?_
                    have hs := arcs_step (p := prevA l i) hx13
                    show AV.v (.bool false) = AV.v (.bool (arcsB none l))
                    rw [hv, hs]
                    by_cases h0 : i = 0 <;> simp_all [arcB, nodeB, ordA, prevA, orderA_lt, ltA]
                    all_goals (intros; omega)
                  · skip
                    refine aSkip ?_
                    refine aSeq ?_
                    have hprev : 0 < i → ∃ b, l[((i : Int) - 1).toNat]? = some b := fun h => ⟨_, List.getElem?_eq_getElem (by omega)⟩
                    refine aDrawT ref24_May_r7_t ref24_May_r7_b [] 35 #[false, false, false, false, false, false, false, false, false, false, false, false, false, false, false, false, false, false, false, false, false, false, false, false, false, false, false, false, false, false, false, false, false, false, false] (by kernel_rfl) rfl rfl (fun HT => ?_)
                    refine dp HT 0 rfl pM ?_
                    refine dp HT 1 rfl pB ?_
                    refine dp HT 2 rfl pM ?_
                    refine dSplitDec 52 rfl (fun c52 => ?_) (fun c52 => ?_)
                    · skip
                      refine dpG HT 3 rfl pM ?_
                      refine dpG HT 4 rfl pM ?_
                      refine dpG HT 5 rfl pSu ?_
                      obtain ⟨b, hb⟩ := hprev (by omega)
                      have hb' : l[i - 1]? = some b := by rw [← hb]; congr 1; omega
                      first | refine dpG HT 6 rfl (pIx es_22) ?_ | (refine obtDN 53 55 rfl rfl (by omega) (fun x56 hx56 => ?_); refine dpG HT 6 rfl (pIs es_22 hx56) ?_) | (refine obtD 53 55 rfl rfl (by omega) (by omega) (fun x56 hx56 => ?_); refine dpG HT 6 rfl (pIs es_22 hx56) ?_) | refine dpG HT 6 rfl (pIo es_22) ?_
                      refine dpG HT 7 rfl (pFs fd_36_0) ?_
                      refine drG HT 8 rfl (rS1 ty_3) ?_
                      refine dpG HT 9 rfl (pFb fd_36_0) ?_
                      refine drG HT 10 rfl (rB1 ty_3) ?_
                      refine dpG HT 11 rfl pB ?_
                      refine dpG HT 12 rfl pM ?_
                      refine dSplitDec 62 rfl (fun c62 => ?_) (fun c62 => ?_)
                      · skip
                        refine dS HT 13 rfl ?_
                        refine dS HT 14 rfl ?_
                        refine dS HT 15 rfl ?_
                        refine dS HT 16 rfl ?_
                        refine dS HT 17 rfl ?_
                        refine dS HT 18 rfl ?_
                        refine dS HT 19 rfl ?_
                        refine dS HT 20 rfl ?_
                        refine dS HT 21 rfl ?_
                        refine dS HT 22 rfl ?_
                        refine dS HT 23 rfl ?_
                        refine dS HT 24 rfl ?_
                        refine dS HT 25 rfl ?_
                        refine dS HT 26 rfl ?_
                        refine dS HT 27 rfl ?_
                        refine dS HT 28 rfl ?_
                        refine dS HT 29 rfl ?_
                        refine dS HT 30 rfl ?_
                        refine dS HT 31 rfl ?_
                        refine dS HT 32 rfl ?_
                        refine dpG HT 33 rfl pK ?_
                        refine dp HT 34 rfl pK ?_
                        refine dE HT ?_
                        clear HT
                        refine aCondT rfl ?_
                        refine aSeq ?_
                        refine aReg ?_
                        refine sp pMa ?_
                        refine oNil ?_
                        refine aRet ?_
                        refine finIs rfl ?_
                        have hs := arcs_step (p := prevA l i) hx13
                        show AV.v (.bool false) = AV.v (.bool (arcsB none l))
                        rw [hv, hs]
                        by_cases h0 : i = 0 <;> simp_all [arcB, nodeB, ordA, prevA, orderA_lt, ltA]
                        all_goals (intros; omega)
                      · skip
                        refine dpG HT 13 rfl pM ?_
                        refine dpG HT 14 rfl pM ?_
                        refine dpG HT 15 rfl pSu ?_
                        first | refine dpG HT 16 rfl (pIx es_22) ?_ | (refine obtDN 63 65 rfl rfl (by omega) (fun x66 hx66 => ?_); refine dpG HT 16 rfl (pIs es_22 hx66) ?_) | (refine obtD 63 65 rfl rfl (by omega) (by omega) (fun x66 hx66 => ?_); refine dpG HT 16 rfl (pIs es_22 hx66) ?_) | refine dpG HT 16 rfl (pIo es_22) ?_
                        refine dpG HT 17 rfl (pFs fd_36_0) ?_
                        refine drG HT 18 rfl (rS1 ty_3) ?_
                        refine dpG HT 19 rfl (pFb fd_36_0) ?_
                        refine drG HT 20 rfl (rB1 ty_3) ?_
                        refine dpG HT 21 rfl pB ?_
                        refine dpG HT 22 rfl pM ?_
                        refine dSplitEq 72 rfl (fun c72 => ?_) (fun c72 => ?_)
                        · skip
                          refine dpG HT 23 rfl pM ?_
                          refine dpG HT 24 rfl pM ?_
                          refine dpG HT 25 rfl pSu ?_
                          first | refine dpG HT 26 rfl (pIx es_22) ?_ | (refine obtDN 73 75 rfl rfl (by omega) (fun x76 hx76 => ?_); refine dpG HT 26 rfl (pIs es_22 hx76) ?_) | (refine obtD 73 75 rfl rfl (by omega) (by omega) (fun x76 hx76 => ?_); refine dpG HT 26 rfl (pIs es_22 hx76) ?_) | refine dpG HT 26 rfl (pIo es_22) ?_
                          refine dpG HT 27 rfl (pFs fd_36_1) ?_
                          refine drG HT 28 rfl (rS1 ty_3) ?_
                          refine dpG HT 29 rfl (pFb fd_36_1) ?_
                          refine drG HT 30 rfl (rB1 ty_3) ?_
                          refine dpG HT 31 rfl pB ?_
                          refine dpG HT 32 rfl pK ?_
                          refine dpG HT 33 rfl pK ?_
                          refine dp HT 34 rfl pK ?_
                          refine dE HT ?_
                          clear HT
                          refine aCondDec rfl (fun c84 => ?_) (fun c84 => ?_)
                          · skip
                            refine aSeq ?_
                            refine aReg ?_
                            refine sp pMa ?_
                            refine oNil ?_
                            refine aRet ?_
                            refine finIs rfl ?_
                            have hs := arcs_step (p := prevA l i) hx13
                            show AV.v (.bool false) = AV.v (.bool (arcsB none l))
                            rw [hv, hs]
                            by_cases h0 : i = 0 <;> simp_all [arcB, nodeB, ordA, prevA, orderA_lt, ltA]
                            all_goals (intros; omega)
                          · skip
                            refine aSkip ?_
                            refine aReg ?_
                            refine sp pM ?_
                            refine sp pAd ?_
                            refine sp pMa ?_
                            refine oNil ?_
                            refine ⟨i + 1, ?_, by (try dsimp only); omega, ⟨gInt rfl (by first | rfl | omega | simp), rfl, trivial⟩, _, (by repeat constructor)⟩
                            have hs := arcs_step (p := prevA l i) hx13
                            refine ⟨by omega, ?_⟩
                            rw [hv, hs, prevA_succ hx13]
                            by_cases h0 : i = 0 <;> simp_all [arcB, nodeB, ordA, prevA, orderA_lt, ltA]
                            all_goals (intros; omega)
                        · skip
                          refine dS HT 23 rfl ?_
                          refine dS HT 24 rfl ?_
                          refine dS HT 25 rfl ?_
                          refine dS HT 26 rfl ?_
                          refine dS HT 27 rfl ?_
                          refine dS HT 28 rfl ?_
                          refine dS HT 29 rfl ?_
                          refine dS HT 30 rfl ?_
                          refine dS HT 31 rfl ?_
                          refine dpG HT 32 rfl pK ?_
                          refine dpG HT 33 rfl pK ?_
                          refine dp HT 34 rfl pK ?_
                          refine dE HT ?_
                          clear HT
                          refine aCondF rfl ?_
                          refine aSkip ?_
                          refine aReg ?_
                          refine sp pM ?_
                          refine sp pAd ?_
                          refine sp pMa ?_
                          refine oNil ?_
                          refine ⟨i + 1, ?_, by (try dsimp only); omega, ⟨gInt rfl (by first | rfl | omega | simp), rfl, trivial⟩, _, (by repeat constructor)⟩
                          have hs := arcs_step (p := prevA l i) hx13
                          refine ⟨by omega, ?_⟩
                          rw [hv, hs, prevA_succ hx13]
                          by_cases h0 : i = 0 <;> simp_all [arcB, nodeB, ordA, prevA, orderA_lt, ltA]
                          all_goals (intros; omega)
                    · skip
                      refine dS HT 3 rfl ?_
                      refine dS HT 4 rfl ?_
                      refine dS HT 5 rfl ?_
                      refine dS HT 6 rfl ?_
                      refine dS HT 7 rfl ?_
                      refine dS HT 8 rfl ?_
                      refine dS HT 9 rfl ?_
                      refine dS HT 10 rfl ?_
                      refine dS HT 11 rfl ?_
                      refine dS HT 12 rfl ?_
                      refine dS HT 13 rfl ?_
                      refine dS HT 14 rfl ?_
                      refine dS HT 15 rfl ?_
                      refine dS HT 16 rfl ?_
                      refine dS HT 17 rfl ?_
                      refine dS HT 18 rfl ?_
                      refine dS HT 19 rfl ?_
                      refine dS HT 20 rfl ?_
                      refine dS HT 21 rfl ?_
                      refine dS HT 22 rfl ?_
                      refine dS HT 23 rfl ?_
                      refine dS HT 24 rfl ?_
                      refine dS HT 25 rfl ?_
                      refine dS HT 26 rfl ?_
                      refine dS HT 27 rfl ?_
                      refine dS HT 28 rfl ?_
                      refine dS HT 29 rfl ?_
                      refine dS HT 30 rfl ?_
                      refine dS HT 31 rfl ?_
                      refine dS HT 32 rfl ?_
                      refine dS HT 33 rfl ?_
                      refine dp HT 34 rfl pK ?_
                      refine dE HT ?_
                      clear HT
                      refine aCondF rfl ?_
                      refine aSkip ?_
                      refine aReg ?_
                      refine sp pM ?_
                      refine sp pAd ?_
                      refine sp pMa ?_
                      refine oNil ?_
                      refine ⟨i + 1, ?_, by (try dsimp only); omega, ⟨gInt rfl (by first | rfl | omega | simp), rfl, trivial⟩, _, (by repeat constructor)⟩
                      have hs := arcs_step (p := prevA l i) hx13
                      refine ⟨by omega, ?_⟩
                      rw [hv, hs, prevA_succ hx13]
                      by_cases h0 : i = 0 <;> simp_all [arcB, nodeB, ordA, prevA, orderA_lt, ltA]
                      all_goals (intros; omega)
    · skip
      refine aExit rfl ?_
      refine aSeq ?_
      refine aReg ?_
      refine sp pMa ?_
      refine oNil ?_
      refine aRet ?_
      refine finIs rfl ?_
      show AV.v (.bool true) = AV.v (.bool _)
      rw [hv, List.drop_of_length_le (by omega)]
      rfl

end A
end Go.Proofs.Ytmcannmjielalaa
