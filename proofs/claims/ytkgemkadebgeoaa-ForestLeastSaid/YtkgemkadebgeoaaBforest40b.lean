/- What functions of the program compute: forest40b -/
import Derived.Test.YtkgemkadebgeoaaBforest40
import Derived.Test.YtkgemkadebgeoaaProg
import Derived.KernelRfl
set_option linter.unusedVariables false
set_option linter.unusedSimpArgs false
namespace Go.Proofs.Ytkgemkadebgeoaa
namespace A

theorem eq_64 : eqType Try.prog 64 = some [(0, .i), (1, .i), (2, .i)] := by kernel_rfl
theorem es_56 : elemSize Try.prog 56 = some 3 := by kernel_rfl
theorem fd_64_0 : fieldOf Try.prog 64 0 = some (0, 1, false) := by kernel_rfl
theorem fd_64_1 : fieldOf Try.prog 64 1 = some (1, 1, false) := by kernel_rfl
theorem fd_64_2 : fieldOf Try.prog 64 2 = some (2, 1, false) := by kernel_rfl
theorem us_103 : Try.prog.underlying 103 = some (.slice 3) := by kernel_rfl
theorem ze_3 : zeroOf Try.prog 3 = some (.int .i64 0) := by kernel_rfl
def orderE (a b : Edge) : Int := orI [cmpI a.a b.a, cmpI a.b b.b]
def cheapE (a b : Edge) : Int := orI [cmpI a.c b.c, orderE a b]
theorem cmpI_ne {a b : Int} : cmpI a b ≠ 0 ↔ a ≠ b := by unfold cmpI; split <;> (try split) <;> omega
theorem cmpI_lt {a b : Int} : cmpI a b < 0 ↔ a < b := by unfold cmpI; split <;> (try split) <;> omega
theorem orderE_lt {a b : Edge} : orderE a b < 0 ↔ ltE a b := by
  simp only [orderE, orI, ltE]
  have h1 := cmpI_ne (a := a.a) (b := b.a)
  have h2 := cmpI_lt (a := a.a) (b := b.a)
  have h3 := cmpI_ne (a := a.b) (b := b.b)
  have h4 := cmpI_lt (a := a.b) (b := b.b)
  split
  · omega
  · split <;> omega
theorem cheapE_lt {a b : Edge} : cheapE a b < 0 ↔ ahead a b = true := by
  simp only [cheapE, orI, ahead]
  have h1 := cmpI_ne (a := a.c) (b := b.c)
  have h2 := cmpI_lt (a := a.c) (b := b.c)
  have h3 := orderE_lt (a := a) (b := b)
  unfold ltE at h3
  by_cases h : a.c = b.c
  · have hz : cmpI a.c b.c = 0 := Classical.byContradiction fun e => h1.1 e h
    rw [if_neg (fun hn => hn hz), if_neg (c := a.c ≠ b.c) (fun hn => hn h)]
    simp only [Bool.or_eq_true, Bool.and_eq_true, decide_eq_true_eq]
    rw [← h3]
    split
    · exact Iff.rfl
    · exact ⟨fun h => by omega, fun h => by omega⟩
  · rw [if_pos (h1.2 h), if_pos h, decide_eq_true_eq]
    exact h2
def ordE (p : Option Edge) (e : Edge) : Bool := match p with | none => true | some q => decide (orderE q e < 0)
theorem edges_step {l : List Edge} {i : Nat} {e : Edge} {p : Option Edge} (h : l[i]? = some e) : edgesB p (l.drop i) = (edgeB e && ordE p e && edgesB (some e) (l.drop (i + 1))) := by
  rw [drop_step h]
  cases p with
  | none => rfl
  | some q => simp only [edgesB, ordE, orderE_lt]

/- forest.order -/
def forest_order_r1_T : Bool × List (List Nat × List Nat) := (true, [([], []), ([0], [0]), ([], []), ([2], [2]), ([1, 3], [1, 3]), ([], []), ([5], [5]), ([], []), ([7], [7]), ([6, 8, 4], [6, 8]), ([4, 9], [4, 9]), ([10, 9], [10]), ([11, 11, 0, 1, 2, 3, 4, 5, 6, 7, 8, 9, 10, 11], [11])])
def forest_order_r1_B : List Nat := [0, 1, 0, 4, 15, 0, 32, 0, 128, 511, 1023, 2047, 4095]
theorem forest_order_r1_t : Go.Proofs.YtkgemkadebgeoaaW.PrintLast.rtab .any (Go.Proofs.YtkgemkadebgeoaaW.PrintLast.opsOf Try.f82 1) = forest_order_r1_T := by kernel_rfl
theorem forest_order_r1_b : Go.Proofs.YtkgemkadebgeoaaW.PrintLast.waitsOk forest_order_r1_T.2 forest_order_r1_B = true := by kernel_rfl
set_option maxRecDepth 100000 in
set_option maxHeartbeats 400000 in
theorem forest_order {a b : Edge} : Triple Try.prog 82 [.agg (edgeC a), .agg (edgeC b)] [] (Is (.v (.int .i64 (orderE a b))) []) := by
  refine triple_of Try.func82 rfl (by kernel_rfl) rfl (by simp) ?_
  refine aSeq ?_
  refine aReg ?_
  refine sq ?_
  refine qBox rfl rfl (by decide) rfl rfl (fun b2 => ?_)
  refine sq ?_
  refine qBox rfl rfl (by decide) rfl rfl (fun b3 => ?_)
  refine sp pMa ?_
  refine oNil ?_
  refine aSeq ?_
  refine aDrawT forest_order_r1_t forest_order_r1_b [] 13 #[false, false, false, false, false, false, false, false, false, false, false, false, false] (by kernel_rfl) rfl rfl (fun HT => ?_)
  refine dp HT 0 rfl (pFb fd_64_0) ?_
  refine dr HT 1 rfl (rB1 ty_3) ?_
  refine dp HT 2 rfl (pFb fd_64_0) ?_
  refine dr HT 3 rfl (rB1 ty_3) ?_
  refine dp HT 5 rfl (pFb fd_64_1) ?_
  refine dr HT 6 rfl (rB1 ty_3) ?_
  refine dp HT 7 rfl (pFb fd_64_1) ?_
  refine dr HT 8 rfl (rB1 ty_3) ?_
  refine dGo ?_
  refine e1 HT 4 rfl ?_
  refine cv rfl rfl rfl (lents_refl _) cmp_Compare ?_
  refine e1 HT 9 rfl ?_
  refine cv rfl rfl rfl (lents_refl _) cmp_Compare ?_
  refine e1 HT 10 rfl ?_
  refine qLit (l := [_, _]) rfl rfl (by decide) us_103 ty_3 ze_3 rfl (by decide) (by decide) rfl rfl rfl (fun b15 => ?_)
  refine e1 HT 11 rfl ?_
  refine cv rfl rfl rfl (by repeat (first | exact .nil | refine .cons (.sl (by repeat (first | exact List.mem_cons_self | apply List.mem_cons_of_mem)) (by first | rfl | simp)) ?_ | refine .cons (.same _) ?_)) (cmp_Or [cmpI a.a b.a, cmpI a.b b.b]) ?_
  refine ePure (i := 12) #[true, true, true, true, true, true, true, true, true, true, true, true, true] rfl rfl rfl (HT.any (by kernel_rfl)) (by exact pMa) (by decide) ?_
  refine eE HT ?_
  clear HT
  refine aRet ?_
  refine finIs rfl ?_
  rfl

/- forest.Check -/
def forest_Check_r4_T : Bool × List (List Nat × List Nat) := (true, [([], []), ([0], [0]), ([1], [1]), ([2], [2]), ([3], [3]), ([4, 3], [3, 4]), ([3], [3]), ([6, 3], [3, 6]), ([5, 7, 3], [3, 5, 7]), ([3, 8], [3, 8]), ([9, 3], [9]), ([10], [10]), ([11, 10], [10, 11]), ([12, 10], [10, 12]), ([10, 13], [10, 13]), ([14, 10], [14]), ([15], [15]), ([16, 15], [15, 16]), ([17, 15], [15, 17]), ([15, 18], [15, 18]), ([19, 15], [19]), ([20], [20]), ([21, 20], [20, 21]), ([22, 20], [20, 22]), ([20, 23], [20, 23]), ([24, 20], [24]), ([25], [25]), ([26, 25], [25, 26]), ([27, 25, 25], [25, 27]), ([28], [28]), ([28], [28]), ([30, 28], [28, 30]), ([29, 31, 28], [28, 29, 31]), ([32, 28], [28, 32]), ([28], [28]), ([33, 34, 28, 28], [28, 33, 34]), ([35, 28], [28, 35]), ([28, 36, 25], [25, 28, 36]), ([25, 37], [25, 37])])
def forest_Check_r4_B : List Nat := [0, 1, 3, 7, 15, 31, 15, 79, 255, 511, 1023, 2047, 4095, 8191, 16383, 32767, 65535, 131071, 262143, 524287, 1048575, 2097151, 4194303, 8388607, 16777215, 33554431, 67108863, 134217727, 268435455, 536870911, 536870911, 1610612735, 4294967295, 8589934591, 536870911, 34359738367, 68719476735, 137438953471, 274877906943]
theorem forest_Check_r4_t : Go.Proofs.YtkgemkadebgeoaaW.PrintLast.rtab .any (Go.Proofs.YtkgemkadebgeoaaW.PrintLast.opsOf Try.f29 4) = forest_Check_r4_T := by kernel_rfl
theorem forest_Check_r4_b : Go.Proofs.YtkgemkadebgeoaaW.PrintLast.waitsOk forest_Check_r4_T.2 forest_Check_r4_B = true := by kernel_rfl
set_option maxRecDepth 100000 in
set_option maxHeartbeats 2000000 in
theorem forest_Check {l : List Edge} (hl : l.length ≤ 1000000 := by omega) : Triple Try.prog 29 [.sl 3 (l.map edgeC)] [] (Is (.v (.int .i64 (if edgesB none l then 0 else 1))) []) := by
  refine triple_of Try.func29 rfl (by kernel_rfl) rfl (by simp) ?_
  refine aSeq ?_
  refine aReg ?_
  refine sp pMa ?_
  refine oNil ?_
  refine aSeq ?_
  refine aSeq ?_
  refine aReg ?_
  refine sp pM ?_
  refine sp (by first | exact pLm sl_56 | exact pLs sl_56) ?_
  refine sp pM ?_
  refine oNil ?_
  refine aBlock ?_
  refine loopF (α := Nat) (kept := [(0, _), (5, _), (6, _)]) (fun i => i ≤ l.length ∧ edgesB none l = edgesB (prevA l i) (l.drop i)) (fun i => [(7, .int i)]) (fun i => []) (fun i => l.length - i) 0 ?_ ⟨gInt rfl (by first | rfl | omega | simp), rfl, rfl, rfl, trivial⟩ (by repeat constructor) ?_
  · skip
    exact ⟨by omega, rfl⟩
  · rintro i ⟨hi, hv⟩
    refine aSeq ?_
    refine aReg ?_
    refine sp pB ?_
    refine oNil ?_
    refine aSeq ?_
    refine aCondDec rfl (fun c8 => ?_) (fun c8 => ?_)
    · skip
      refine aSkip ?_
      refine aSeq ?_
      refine aBlock ?_
      refine aSeq ?_
      refine aReg ?_
      refine sp pM ?_
      first | refine sp (pIx es_56) ?_ | (refine obtSN 5 7 rfl rfl (by omega) (fun x10 hx10 => ?_); refine sp (pIs es_56 hx10) ?_) | (refine obtS 5 7 rfl rfl (by omega) (by omega) (fun x10 hx10 => ?_); refine sp (pIs es_56 hx10) ?_) | refine sp (pIo es_56) ?_
      refine sr (by first | exact rSW ty_64 rfl | exact rSA ty_64) ?_
      refine sq ?_
      refine qAlloc rfl rfl (by decide) ze_64 rfl (fun b4 => ?_)
      refine sp pMa ?_
      refine sa ?_
      refine oStW rfl rfl rfl rfl (by repeat constructor) ty_64 ?_
      refine oNil ?_
      refine aSeq ?_
      have hprev : 0 < i → ∃ b, l[((i : Int) - 1).toNat]? = some b := fun h => ⟨_, List.getElem?_eq_getElem (by omega)⟩
      refine aDrawT forest_Check_r4_t forest_Check_r4_b [] 39 #[false, false, false, false, false, false, false, false, false, false, false, false, false, false, false, false, false, false, false, false, false, false, false, false, false, false, false, false, false, false, false, false, false, false, false, false, false, false, false] (by kernel_rfl) rfl rfl (fun HT => ?_)
      refine dp HT 0 rfl (pFb fd_64_0) ?_
      refine dr HT 1 rfl (rB1 ty_3) ?_
      refine dp HT 2 rfl pB ?_
      refine dp HT 3 rfl pM ?_
      refine dSplitDec 15 rfl (fun c15 => ?_) (fun c15 => ?_)
      · skip
        refine dS HT 4 rfl ?_
        refine dS HT 5 rfl ?_
        refine dS HT 6 rfl ?_
        refine dS HT 7 rfl ?_
        refine dS HT 8 rfl ?_
        refine dp HT 9 rfl pK ?_
        refine dp HT 10 rfl pM ?_
        refine dS HT 11 rfl ?_
        refine dS HT 12 rfl ?_
        refine dS HT 13 rfl ?_
        refine dp HT 14 rfl pK ?_
        refine dp HT 15 rfl pM ?_
        refine dS HT 16 rfl ?_
        refine dS HT 17 rfl ?_
        refine dS HT 18 rfl ?_
        refine dp HT 19 rfl pK ?_
        refine dp HT 20 rfl pM ?_
        refine dS HT 21 rfl ?_
        refine dS HT 22 rfl ?_
        refine dS HT 23 rfl ?_
        refine dp HT 24 rfl pK ?_
        refine dp HT 25 rfl pM ?_
        refine dS HT 26 rfl ?_
        refine dS HT 27 rfl ?_
        refine dS HT 28 rfl ?_
        refine dS HT 29 rfl ?_
        refine dS HT 30 rfl ?_
        refine dS HT 31 rfl ?_
        refine dS HT 32 rfl ?_
        refine dS HT 33 rfl ?_
        refine dS HT 34 rfl ?_
        refine dGo ?_
        refine eS HT 35 rfl ?_
        refine eS HT 36 rfl ?_
        refine eS HT 37 rfl ?_
        refine ef HT 38 rfl pK ?_
        refine eE HT ?_
        clear HT
        refine aCondT rfl ?_
        refine aSeq ?_
        refine aReg ?_
        refine sp pMa ?_
        refine oNil ?_
        refine aRet ?_
        refine finIs rfl ?_
        have hs := edges_step (p := prevA l i) hx10
        show AV.int 1 = AV.int _
        rw [hv, hs]
        by_cases h0 : i = 0 <;> simp_all [edgeB, ordE, prevA]
        all_goals (intros; omega)
      · skip
        refine dpG HT 4 rfl (pFb fd_64_0) ?_
        refine drG HT 5 rfl (rB1 ty_3) ?_
        refine dpG HT 6 rfl (pFb fd_64_1) ?_
        refine drG HT 7 rfl (rB1 ty_3) ?_
        refine dpG HT 8 rfl pB ?_
        refine dp HT 9 rfl pK ?_
        refine dp HT 10 rfl pM ?_
        refine dSplitDec 22 rfl (fun c22 => ?_) (fun c22 => ?_)
        · skip
          refine dS HT 11 rfl ?_
          refine dS HT 12 rfl ?_
          refine dS HT 13 rfl ?_
          refine dp HT 14 rfl pK ?_
          refine dp HT 15 rfl pM ?_
          refine dS HT 16 rfl ?_
          refine dS HT 17 rfl ?_
          refine dS HT 18 rfl ?_
          refine dp HT 19 rfl pK ?_
          refine dp HT 20 rfl pM ?_
          refine dS HT 21 rfl ?_
          refine dS HT 22 rfl ?_
          refine dS HT 23 rfl ?_
          refine dp HT 24 rfl pK ?_
          refine dp HT 25 rfl pM ?_
          refine dS HT 26 rfl ?_
          refine dS HT 27 rfl ?_
          refine dS HT 28 rfl ?_
          refine dS HT 29 rfl ?_
          refine dS HT 30 rfl ?_
          refine dS HT 31 rfl ?_
          refine dS HT 32 rfl ?_
          refine dS HT 33 rfl ?_
          refine dS HT 34 rfl ?_
          refine dGo ?_
          refine eS HT 35 rfl ?_
          refine eS HT 36 rfl ?_
          refine eS HT 37 rfl ?_
          refine ef HT 38 rfl pK ?_
          refine eE HT ?_
          clear HT
          refine aCondT rfl ?_
          refine aSeq ?_
          refine aReg ?_
          refine sp pMa ?_
          refine oNil ?_
          refine aRet ?_
          refine finIs rfl ?_
          have hs := edges_step (p := prevA l i) hx10
          show AV.int 1 = AV.int _
          rw [hv, hs]
          by_cases h0 : i = 0 <;> simp_all [edgeB, ordE, prevA]
          all_goals (intros; omega)
        · skip
          refine dpG HT 11 rfl (pFb fd_64_1) ?_
          refine drG HT 12 rfl (rB1 ty_3) ?_
          refine dpG HT 13 rfl pB ?_
          refine dp HT 14 rfl pK ?_
          refine dp HT 15 rfl pM ?_
          refine dSplitDec 27 rfl (fun c27 => ?_) (fun c27 => ?_)
          · skip
            refine dS HT 16 rfl ?_
            refine dS HT 17 rfl ?_
            refine dS HT 18 rfl ?_
            refine dp HT 19 rfl pK ?_
            refine dp HT 20 rfl pM ?_
            refine dS HT 21 rfl ?_
            refine dS HT 22 rfl ?_
            refine dS HT 23 rfl ?_
            refine dp HT 24 rfl pK ?_
            refine dp HT 25 rfl pM ?_
            refine dS HT 26 rfl ?_
            refine dS HT 27 rfl ?_
            refine dS HT 28 rfl ?_
            refine dS HT 29 rfl ?_
            refine dS HT 30 rfl ?_
            refine dS HT 31 rfl ?_
            refine dS HT 32 rfl ?_
            refine dS HT 33 rfl ?_
            refine dS HT 34 rfl ?_
            refine dGo ?_
            refine eS HT 35 rfl ?_
            refine eS HT 36 rfl ?_
            refine eS HT 37 rfl ?_
            refine ef HT 38 rfl pK ?_
            refine eE HT ?_
            clear HT
            refine aCondT rfl ?_
            refine aSeq ?_
            refine aReg ?_
            refine sp pMa ?_
            refine oNil ?_
            refine aRet ?_
            refine finIs rfl ?_
            have hs := edges_step (p := prevA l i) hx10
            show AV.int 1 = AV.int _
            rw [hv, hs]
            by_cases h0 : i = 0 <;> simp_all [edgeB, ordE, prevA]
            all_goals (intros; omega)
          · skip
            refine dpG HT 16 rfl (pFb fd_64_2) ?_
            refine drG HT 17 rfl (rB1 ty_3) ?_
            refine dpG HT 18 rfl pB ?_
            refine dp HT 19 rfl pK ?_
            refine dp HT 20 rfl pM ?_
            refine dSplitDec 32 rfl (fun c32 => ?_) (fun c32 => ?_)
            · skip
              refine dS HT 21 rfl ?_
              refine dS HT 22 rfl ?_
              refine dS HT 23 rfl ?_
              refine dp HT 24 rfl pK ?_
              refine dp HT 25 rfl pM ?_
              refine dS HT 26 rfl ?_
              refine dS HT 27 rfl ?_
              refine dS HT 28 rfl ?_
              refine dS HT 29 rfl ?_
              refine dS HT 30 rfl ?_
              refine dS HT 31 rfl ?_
              refine dS HT 32 rfl ?_
              refine dS HT 33 rfl ?_
              refine dS HT 34 rfl ?_
              refine dGo ?_
              refine eS HT 35 rfl ?_
              refine eS HT 36 rfl ?_
              refine eS HT 37 rfl ?_
              refine ef HT 38 rfl pK ?_
              refine eE HT ?_
              clear HT
              refine aCondT rfl ?_
              refine aSeq ?_
              refine aReg ?_
              refine sp pMa ?_
              refine oNil ?_
              refine aRet ?_
              refine finIs rfl ?_
              have hs := edges_step (p := prevA l i) hx10
              show AV.int 1 = AV.int _
              rw [hv, hs]
              by_cases h0 : i = 0 <;> simp_all [edgeB, ordE, prevA]
              all_goals (intros; omega)
            · skip
              refine dpG HT 21 rfl (pFb fd_64_2) ?_
              refine drG HT 22 rfl (rB1 ty_3) ?_
              refine dpG HT 23 rfl pB ?_
              refine dp HT 24 rfl pK ?_
              refine dp HT 25 rfl pM ?_
              refine dSplitDec 37 rfl (fun c37 => ?_) (fun c37 => ?_)
              · skip
                refine dS HT 26 rfl ?_
                refine dS HT 27 rfl ?_
                refine dS HT 28 rfl ?_
                refine dS HT 29 rfl ?_
                refine dS HT 30 rfl ?_
                refine dS HT 31 rfl ?_
                refine dS HT 32 rfl ?_
                refine dS HT 33 rfl ?_
                refine dS HT 34 rfl ?_
                refine dGo ?_
                refine eS HT 35 rfl ?_
                refine eS HT 36 rfl ?_
                refine eS HT 37 rfl ?_
                refine ef HT 38 rfl pK ?_
                refine eE HT ?_
                clear HT
                refine aCondT rfl ?_
                refine aSeq ?_
                refine aReg ?_
                refine sp pMa ?_
                refine oNil ?_
                refine aRet ?_
                refine finIs rfl ?_
                have hs := edges_step (p := prevA l i) hx10
                show AV.int 1 = AV.int _
                rw [hv, hs]
                by_cases h0 : i = 0 <;> simp_all [edgeB, ordE, prevA]
                all_goals (intros; omega)
              · skip
                refine dpG HT 26 rfl pM ?_
                refine dpG HT 27 rfl pB ?_
                refine dpG HT 28 rfl pM ?_
                refine dSplitDec 40 rfl (fun c40 => ?_) (fun c40 => ?_)
                · skip
                  refine dpG HT 29 rfl pM ?_
                  refine dpG HT 30 rfl pM ?_
                  refine dpG HT 31 rfl pSu ?_
                  obtain ⟨b, hb⟩ := hprev (by omega)
                  have hb' : l[i - 1]? = some b := by rw [← hb]; congr 1; omega
                  first | refine dpG HT 32 rfl (pIx es_56) ?_ | (refine obtDN 41 43 rfl rfl (by omega) (fun x44 hx44 => ?_); refine dpG HT 32 rfl (pIs es_56 hx44) ?_) | (refine obtD 41 43 rfl rfl (by omega) (by omega) (fun x44 hx44 => ?_); refine dpG HT 32 rfl (pIs es_56 hx44) ?_) | refine dpG HT 32 rfl (pIo es_56) ?_
                  refine drG HT 33 rfl (by first | exact rSW ty_64 rfl | exact rSA ty_64) ?_
                  refine drG HT 34 rfl (by first | exact rBWa ty_64 | exact rBW ty_64 | exact rBA ty_64) ?_
                  refine dGo ?_
                  refine e1G HT 35 rfl ?_
                  refine cv rfl rfl rfl (lents_refl _) forest_order ?_
                  refine efG HT 36 rfl pB ?_
                  refine efG HT 37 rfl pK ?_
                  refine ef HT 38 rfl pK ?_
                  refine eE HT ?_
                  clear HT
                  refine aCondDec rfl (fun c50 => ?_) (fun c50 => ?_)
                  · skip
                    refine aSeq ?_
                    refine aReg ?_
                    refine sp pMa ?_
                    refine oNil ?_
                    refine aRet ?_
                    refine finIs rfl ?_
                    have hs := edges_step (p := prevA l i) hx10
                    show AV.int 1 = AV.int _
                    rw [hv, hs]
                    by_cases h0 : i = 0 <;> simp_all [edgeB, ordE, prevA]
                    all_goals (intros; omega)
                  · skip
                    refine aSkip ?_
                    refine aReg ?_
                    refine sp pAd ?_
                    refine sp pM ?_
                    refine oNil ?_
                    refine ⟨i + 1, ?_, by (try dsimp only); omega, ⟨gInt rfl (by first | rfl | omega | simp), rfl, rfl, rfl, trivial⟩, _, (by repeat constructor)⟩
                    have hs := edges_step (p := prevA l i) hx10
                    refine ⟨by omega, ?_⟩
                    rw [hv, hs, prevA_succ hx10]
                    by_cases h0 : i = 0 <;> simp_all [edgeB, ordE, prevA]
                    all_goals (intros; omega)
                · skip
                  refine dS HT 29 rfl ?_
                  refine dS HT 30 rfl ?_
                  refine dS HT 31 rfl ?_
                  refine dS HT 32 rfl ?_
                  refine dS HT 33 rfl ?_
                  refine dS HT 34 rfl ?_
                  refine dGo ?_
                  refine eS HT 35 rfl ?_
                  refine eS HT 36 rfl ?_
                  refine efG HT 37 rfl pK ?_
                  refine ef HT 38 rfl pK ?_
                  refine eE HT ?_
                  clear HT
                  refine aCondF rfl ?_
                  refine aSkip ?_
                  refine aReg ?_
                  refine sp pAd ?_
                  refine sp pM ?_
                  refine oNil ?_
                  refine ⟨i + 1, ?_, by (try dsimp only); omega, ⟨gInt rfl (by first | rfl | omega | simp), rfl, rfl, rfl, trivial⟩, _, (by repeat constructor)⟩
                  have hs := edges_step (p := prevA l i) hx10
                  refine ⟨by omega, ?_⟩
                  rw [hv, hs, prevA_succ hx10]
                  by_cases h0 : i = 0 <;> simp_all [edgeB, ordE, prevA]
                  all_goals (intros; omega)
    · skip
      refine aExit rfl ?_
      refine aSeq ?_
      refine aReg ?_
      refine sp pMa ?_
      refine oNil ?_
      refine aRet ?_
      refine finIs rfl ?_
      show AV.int 0 = AV.int _
      rw [hv, List.drop_of_length_le (by omega)]
      rfl

/- waymarkref40.ahead -/
set_option maxRecDepth 100000 in
set_option maxHeartbeats 400000 in
theorem ref40_ahead {x y : Edge} : Triple Try.prog 84 [.agg (edgeC x), .agg (edgeC y)] [] (Is (.v (.bool (ahead x y))) []) := by
  refine triple_of Try.func84 rfl (by kernel_rfl) rfl (by simp) ?_
  refine aSeq ?_
  refine aReg ?_
  refine sq ?_
  refine qBox rfl rfl (by decide) rfl rfl (fun b2 => ?_)
  refine sq ?_
  refine qBox rfl rfl (by decide) rfl rfl (fun b3 => ?_)
  refine sp pMa ?_
  refine oNil ?_
  refine aSeq ?_
  refine aSeq ?_
  refine aReg ?_
  refine sp (pFb fd_64_2) ?_
  refine sr (rB1 ty_3) ?_
  refine sp (pFb fd_64_2) ?_
  refine sr (rB1 ty_3) ?_
  refine sp pB ?_
  refine oNil ?_
  refine aCondNe rfl (fun c9 => ?_) (fun c9 => ?_)
  · skip
    refine aSeq ?_
    refine aReg ?_
    refine sp (pFb fd_64_2) ?_
    refine sr (rB1 ty_3) ?_
    refine sp (pFb fd_64_2) ?_
    refine sr (rB1 ty_3) ?_
    refine sp pB ?_
    refine sp pMa ?_
    refine oNil ?_
    refine aRet ?_
    refine finIs rfl ?_
    simp_all [retOf, ahead]
    all_goals omega
  · skip
    refine aSkip ?_
    refine aSeq ?_
    refine aReg ?_
    refine sp (pFb fd_64_0) ?_
    refine sr (rB1 ty_3) ?_
    refine sp (pFb fd_64_0) ?_
    refine sr (rB1 ty_3) ?_
    refine sp pB ?_
    refine sp pM ?_
    refine oSplitDec 20 rfl (fun c20 => ?_) (fun c20 => ?_)
    · skip
      refine gf ?_
      refine gf ?_
      refine gf ?_
      refine gf ?_
      refine gf ?_
      refine gf ?_
      refine gf ?_
      refine gf ?_
      refine gf ?_
      refine gf ?_
      refine gf ?_
      refine gf ?_
      refine sp pK ?_
      refine sp pMa ?_
      refine oNil ?_
      refine aRet ?_
      refine finIs rfl ?_
      simp_all [retOf, ahead]
      all_goals omega
    · skip
      refine gp (pFb fd_64_0) ?_
      refine gr (rB1 ty_3) ?_
      refine gp (pFb fd_64_0) ?_
      refine gr (rB1 ty_3) ?_
      refine gp pB ?_
      refine gp pM ?_
      refine oSplitEq 26 rfl (fun c26 => ?_) (fun c26 => ?_)
      · skip
        refine gp (pFb fd_64_1) ?_
        refine gr (rB1 ty_3) ?_
        refine gp (pFb fd_64_1) ?_
        refine gr (rB1 ty_3) ?_
        refine gp pB ?_
        refine gp pK ?_
        refine sp pK ?_
        refine sp pMa ?_
        refine oNil ?_
        refine aRet ?_
        refine finIs rfl ?_
        simp_all [retOf, ahead]
        all_goals omega
      · skip
        refine gf ?_
        refine gf ?_
        refine gf ?_
        refine gf ?_
        refine gf ?_
        refine gp pK ?_
        refine sp pK ?_
        refine sp pMa ?_
        refine oNil ?_
        refine aRet ?_
        refine finIs rfl ?_
        simp_all [retOf, ahead]
        all_goals omega

/- waymarkref39.Same -/
def ref39_Same_r6_T : Bool × List (List Nat × List Nat) := (true, [([], []), ([], []), ([0, 1], [0, 1]), ([2], [2]), ([], []), ([], []), ([4, 5], [4, 5]), ([6], [6]), ([3, 7], [3, 7])])
def ref39_Same_r6_B : List Nat := [0, 0, 3, 7, 0, 0, 48, 112, 255]
theorem ref39_Same_r6_t : Go.Proofs.YtkgemkadebgeoaaW.PrintLast.rtab .any (Go.Proofs.YtkgemkadebgeoaaW.PrintLast.opsOf Try.f32 6) = ref39_Same_r6_T := by kernel_rfl
theorem ref39_Same_r6_b : Go.Proofs.YtkgemkadebgeoaaW.PrintLast.waitsOk ref39_Same_r6_T.2 ref39_Same_r6_B = true := by kernel_rfl
set_option maxRecDepth 100000 in
set_option maxHeartbeats 400000 in
theorem ref39_Same {a b : List Edge} (ha : a.length < 9223372036854775807 := by omega) (hb : b.length < 9223372036854775807 := by omega) : Triple Try.prog 32 [.sl 3 (a.map edgeC), .sl 3 (b.map edgeC)] [] (Is (.v (.bool (decide (a = b)))) []) := by
  refine triple_of Try.func32 rfl (by kernel_rfl) rfl (by simp) ?_
  refine aSeq ?_
  refine aReg ?_
  refine sp pMa ?_
  refine oNil ?_
  refine aSeq ?_
  refine aSeq ?_
  refine aReg ?_
  refine sp pM ?_
  refine sp (by first | exact pLm sl_56 | exact pLs sl_56) ?_
  refine sp pM ?_
  refine sp (by first | exact pLm sl_56 | exact pLs sl_56) ?_
  refine sp pB ?_
  refine oNil ?_
  refine aCondNe rfl (fun c10 => ?_) (fun c10 => ?_)
  · skip
    refine aSeq ?_
    refine aReg ?_
    refine sp pMa ?_
    refine oNil ?_
    refine aRet ?_
    refine finIs rfl ?_
    rw [decide_eq_false (fun e => by subst e; simp at c10)]
    rfl
  · skip
    refine aSkip ?_
    refine aSeq ?_
    refine aSeq ?_
    refine aReg ?_
    refine sp pMa ?_
    refine oNil ?_
    refine aBlock ?_
    refine loopF (α := Nat) (kept := [(0, _), (1, _)]) (fun i => i ≤ a.length ∧ a.length = b.length ∧ a.take i = b.take i) (fun i => [(5, .int i)]) (fun i => []) (fun i => a.length - i) 0 ?_ ⟨gInt rfl (by first | rfl | omega | simp), rfl, rfl, trivial⟩ (by repeat constructor) ?_
    · skip
      exact ⟨by omega, by omega, rfl⟩
    · rintro i ⟨hi, hl, hv⟩
      refine aSeq ?_
      refine aSeq ?_
      refine aReg ?_
      refine sp pM ?_
      refine sp pM ?_
      refine sp (by first | exact pLm sl_56 | exact pLs sl_56) ?_
      refine sp pB ?_
      refine oNil ?_
      refine aCondDec rfl (fun c14 => ?_) (fun c14 => ?_)
      · skip
        refine aSkip ?_
        refine aSeq ?_
        refine aBlock ?_
        refine aSeq ?_
        refine aDrawT ref39_Same_r6_t ref39_Same_r6_b [] 9 #[false, false, false, false, false, false, false, false, false] (by kernel_rfl) rfl rfl (fun HT => ?_)
        refine dp HT 0 rfl pM ?_
        refine dp HT 1 rfl pM ?_
        first | refine dp HT 2 rfl (pIx es_56) ?_ | (refine obtDN 17 18 rfl rfl (by omega) (fun x19 hx19 => ?_); refine dp HT 2 rfl (pIs es_56 hx19) ?_) | (refine obtD 17 18 rfl rfl (by omega) (by omega) (fun x19 hx19 => ?_); refine dp HT 2 rfl (pIs es_56 hx19) ?_) | refine dp HT 2 rfl (pIo es_56) ?_
        refine dr HT 3 rfl (by first | exact rSW ty_64 rfl | exact rSA ty_64) ?_
        refine dp HT 4 rfl pM ?_
        refine dp HT 5 rfl pM ?_
        first | refine dp HT 6 rfl (pIx es_56) ?_ | (refine obtDN 21 22 rfl rfl (by omega) (fun x23 hx23 => ?_); refine dp HT 6 rfl (pIs es_56 hx23) ?_) | (refine obtD 21 22 rfl rfl (by omega) (by omega) (fun x23 hx23 => ?_); refine dp HT 6 rfl (pIs es_56 hx23) ?_) | refine dp HT 6 rfl (pIo es_56) ?_
        refine dr HT 7 rfl (by first | exact rSW ty_64 rfl | exact rSA ty_64) ?_
        refine dp HT 8 rfl (pEqAn eq_64) ?_
        refine dE HT ?_
        clear HT
        refine aCond rfl (fun c25 => ?_) (fun c25 => ?_)
        · skip
          refine aSeq ?_
          refine aReg ?_
          refine sp pMa ?_
          refine oNil ?_
          refine aRet ?_
          refine finIs rfl ?_
          rw [decide_eq_false (fun e => by subst e; obtain rfl := Option.some.inj (hx19.symm.trans hx23); simp at c25)]
          rfl
        · skip
          refine aSkip ?_
          refine aReg ?_
          refine sp pM ?_
          refine sp pAd ?_
          refine sp pMa ?_
          refine oNil ?_
          refine ⟨i + 1, ?_, by (try dsimp only); omega, ⟨gInt rfl (by first | rfl | omega | simp), rfl, rfl, trivial⟩, _, (by repeat constructor)⟩
          have hxy : x19 = x23 := by
            cases x19
            cases x23
            simp_all
          exact ⟨by omega, hl, by rw [take_step hx19, take_step hx23, hv, hxy]⟩
      · skip
        refine aExit rfl ?_
        refine aSeq ?_
        refine aReg ?_
        refine sp pMa ?_
        refine oNil ?_
        refine aRet ?_
        refine finIs rfl ?_
        rw [take_all (by omega), take_all (by omega)] at hv
        rw [decide_eq_true hv]
        rfl

end A
end Go.Proofs.Ytkgemkadebgeoaa
