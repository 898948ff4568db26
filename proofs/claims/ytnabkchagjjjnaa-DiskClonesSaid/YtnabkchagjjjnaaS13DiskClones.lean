/- Whatever the input, waymarklaw03.DiskClones returns true, and each argument reads as it did. -/
import Derived.Laws.IdiomRangeMap
import Derived.Test.YtnabkchagjjjnaaS12DiskClones
set_option linter.unusedVariables false
set_option linter.unusedSimpArgs false
set_option linter.unusedSectionVars false
namespace Go.Proofs.Ytnabkchagjjjnaa
namespace A
open Go.Lib Go.RowKit
variable {P : Program} {N : Nat} {env : Env} {h : List HA} {K : Env → List HA → Prop}
theorem oRangeNil {o : Oper} {t kt et : TypeId} {x : Operand} {d : Nat} (ho : o.op = .range t x) (hd : o.dst = some d) (hN : d < N) (hx : ev env x = some (.v (.map none))) (hm : P.underlying t = some (.map kt et))
    (hk : ∀ r, K ((d, .v (.pointer (some ⟨r, 0, none⟩))) :: env) (.obj r (.mapIter none 0 #[] 0) :: h)) : AOp P N o env h K := by
  intro B F a w Q s e hdef
  have hr := s.ev hx
  generalize hv : a.eval x = v at hr
  cases hr
  have hrun : (execOp a.eval o).run P w = .ok (.value (.pointer (some ⟨w.heap.size, 0, none⟩))) (w.alloc (.mapIter none 0 #[] 0)) := by
    simp [execOp, ho, hv, run_range_nilMap w t kt et hm]
  obtain ⟨hR, hE, hag⟩ := s.r.new (o := .mapIter none 0 #[] 0) (x := .obj w.heap.size (.mapIter none 0 #[] 0)) rfl (heap_new w _)
  unfold Oper.wp
  rw [hrun, Oper.upon_value, hd]
  exact ⟨hdef, F, _, _, hk _, s.put hE hR hN (.v _), e.trans hE⟩
theorem oNextNil {o : Oper} {x : Operand} {d r : Nat} {h' : List HA} (ho : o.op = .next x false) (hd : o.dst = some d) (hN : d < N) (hx : ev env x = some (.v (.pointer (some ⟨r, 0, none⟩)))) (hs : Spl h (.obj r (.mapIter none 0 #[] 0)) h')
    (hk : K ((d, .tup [.bool false]) :: env) h) : AOp P N o env h K := by
  intro B F a w Q s e hdef
  have hr := s.ev hx
  generalize hv : a.eval x = v at hr
  cases hr
  have hb : w.heap[r]? = some (.mapIter none 0 #[] 0) := s.r.rep _ (spl_mem hs)
  have hnx : (Instr.next (.pointer (some ⟨r, 0, none⟩)) false o.type).run P w = .ok (.tuple #[.bool false]) w := by
    simp only [Instr.next, getObj, Sem.run_bind, Sem.run, hb, Result.andThen]
    rfl
  have hrun : (execOp a.eval o).run P w = .ok (.value (.tuple #[.bool false])) w := by simp [execOp, ho, hv, hnx]
  unfold Oper.wp
  rw [hrun, Oper.upon_value, hd]
  exact ⟨hdef, F, _, _, hk, s.put (.refl F h w) s.r hN (.tup _ _ rfl (fun j av x hj hx => by
      match j with
      | 0 => simp at hj hx; subst hj; subst hx; exact .v _
      | j + 1 => simp at hj)), e⟩
theorem run_eqMapR (d : Nat) {t k e : TypeId} (hm : P.underlying t = some (.map k e)) (p : Option Nat) (w : World) : (Op.equalIn (d + 1) t (.map p) (.map none)).run P w = .ok p.isNone w := by
  cases p <;> simp [Op.equalIn, run_underlying' hm]
/-- Nobody's map against nil. -/
theorem pMapNil {o : Oper} {t t' k e : TypeId} {xo : Operand} {p : Option Nat} (hm : P.underlying t = some (.map k e)) (hop : o.op = .binOp .eql t xo (.const (.map none)) t' := by rfl) (hx : ev env xo = some (.v (.map p)) := by rfl) : APure P N o env (.v (.bool p.isNone)) := by
  intro F h a w st
  have hr := st.ev hx
  generalize hv : a.eval xo = x at hr
  cases hr
  have hc : a.eval (.const (.map none)) = .map none := rfl
  refine ⟨_, .v _, fun w' => ?_⟩
  have he : (Op.equal t (.map p) (.map none)).run P w' = .ok p.isNone w' := run_eqMapR 9999 hm p w'
  simp [execOp, hop, hv, hc, eqGuard, binOp, he]
end A
end Go.Proofs.Ytnabkchagjjjnaa
set_option linter.unusedVariables false
set_option linter.unusedSimpArgs false
namespace Go.Proofs.Ytnabkchagjjjnaa
namespace A
theorem ty_42 : tyOf Try.prog 42 = some (5, true) := by kernel_rfl
def cloD_ren : Go.Shelf.Ren := ⟨fun | 5 => 37 | 7 => 66 | n => n, fun | 23 => 40 | 25 => 3 | 3 => 35 | 4 => 4 | 20 => 20 | n => n, fun | n => n⟩
theorem cloD : Go.Proofs.SlLaysW.n5 Try.prog cloD_ren := {
  mixed := by kernel_rfl,
  f5 := ⟨"maps.Clone[map[int][]byte,int,[]byte]", by decide, Try.func37.trans (congrArg some (by kernel_rfl))⟩,
  f7 := Try.func66.trans (congrArg some (by kernel_rfl)),
  t4 := Try.underlying4,
  a4 := Try.isAgg4,
  z4 := Try.sizeOf4,
  v4 := Try.zeroValue4,
  t20 := Try.underlying20,
  a20 := Try.isAgg20,
  z20 := Try.sizeOf20,
  v20 := Try.zeroValue20,
  t23 := Try.underlying40,
  a23 := Try.isAgg40,
  z23 := Try.sizeOf40,
  v23 := Try.zeroValue40 }
theorem hb_cloD : HasBody Try.prog 37 := ⟨_, Try.func37, by kernel_rfl, rfl⟩
theorem clone_dm (b : Nat) (S : List (Int × BS)) : Triple Try.prog 37 [.v (.map (some b))] [.map b (kvA S)] (fun r h' => ∃ b', r = .v (.map (some b')) ∧ h' = [.map b' (kvA S), .map b (kvA S)]) := triple_mapClone cloD rfl hb_cloD b (kvA S)
/- disk.Disk).off -/
set_option maxRecDepth 100000 in
set_option maxHeartbeats 400000 in
theorem disk_off_n  : Triple Try.prog 39 [.v (.pointer none)] [] (Is (.v (.bool true)) []) := by
  refine triple_of Try.func39 rfl (by kernel_rfl) rfl (by simp) ?_
  refine aSeq ?_
  refine aReg ?_
  refine sp pMa ?_
  refine oNil ?_
  refine aSeq ?_
  refine aReg ?_
  refine sp pM ?_
  refine sp (by first | exact pPtrNil rfl (.inl rfl) rfl pt_25 rfl (rfl : _ = true) | exact pSpNil rfl (.inl rfl) rfl pt_25 (rfl : _ = true)) ?_
  refine sp pM ?_
  refine gf ?_
  refine gf ?_
  refine gf ?_
  refine gf ?_
  refine gf ?_
  refine sp pK ?_
  refine sp pM ?_
  refine gf ?_
  refine gf ?_
  refine gf ?_
  refine gf ?_
  refine sp pK ?_
  refine sp pMa ?_
  refine oNil ?_
  refine aRet ?_
  refine finIs rfl ?_
  rfl
/- disk.Disk).off -/
set_option maxRecDepth 100000 in
set_option maxHeartbeats 400000 in
theorem disk_off_e (zb : Nat) (a : Int) : Triple Try.prog 39 [.v (.pointer (some ⟨zb, 0, none⟩))] [.box zb [.int 0, .v (.map none), .v (.map none), .int a, .v (.bool false)]] (Is (.v (.bool true)) [.box zb [.int 0, .v (.map none), .v (.map none), .int a, .v (.bool false)]]) := by
  refine triple_of Try.func39 rfl (by kernel_rfl) rfl (by simp) ?_
  refine aSeq ?_
  refine aReg ?_
  refine sp pMa ?_
  refine oNil ?_
  refine aSeq ?_
  refine aReg ?_
  refine sp pM ?_
  refine sp (by first | exact pPtrNil rfl (.inl rfl) rfl pt_25 rfl (rfl : _ = false) | exact pSpNil rfl (.inl rfl) rfl pt_25 (rfl : _ = false)) ?_
  refine sp pM ?_
  refine gp pM ?_
  refine gp pNv ?_
  refine gp (pFb fd_42_0) ?_
  refine gr (rB1 ty_3) ?_
  refine gp (pBin rfl rfl rfl rfl (rfl : _ = Value.bool true)) ?_
  refine sp pK ?_
  refine sp pM ?_
  refine gf ?_
  refine gf ?_
  refine gf ?_
  refine gf ?_
  refine sp pK ?_
  refine sp pMa ?_
  refine oNil ?_
  refine aRet ?_
  refine finIs rfl ?_
  rfl
/- disk.Disk).Dead -/
set_option maxRecDepth 100000 in
set_option maxHeartbeats 400000 in
theorem disk_Dead_n  : Triple Try.prog 15 [.v (.pointer none)] [] (Is (.v (.bool true)) []) := by
  refine triple_of Try.func15 rfl (by kernel_rfl) rfl (by simp) ?_
  refine aSeq ?_
  refine aReg ?_
  refine sp pMa ?_
  refine oNil ?_
  refine aSeq ?_
  refine aReg ?_
  refine sp pM ?_
  refine sq ?_
  refine ci rfl rfl rfl disk_off_n ?_
  refine sp pMa ?_
  refine oNil ?_
  refine aRet ?_
  refine finIs rfl ?_
  rfl
/- disk.Disk).Dead -/
set_option maxRecDepth 100000 in
set_option maxHeartbeats 400000 in
theorem disk_Dead_e (zb : Nat) (a : Int) : Triple Try.prog 15 [.v (.pointer (some ⟨zb, 0, none⟩))] [.box zb [.int 0, .v (.map none), .v (.map none), .int a, .v (.bool false)]] (Is (.v (.bool true)) [.box zb [.int 0, .v (.map none), .v (.map none), .int a, .v (.bool false)]]) := by
  refine triple_of Try.func15 rfl (by kernel_rfl) rfl (by simp) ?_
  refine aSeq ?_
  refine aReg ?_
  refine sp pMa ?_
  refine oNil ?_
  refine aSeq ?_
  refine aReg ?_
  refine sp pM ?_
  refine sa ?_
  refine cai rfl rfl rfl (disk_off_e zb a) ?_
  refine sp pMa ?_
  refine oNil ?_
  refine aRet ?_
  refine finIs rfl ?_
  rfl
/- disk.Disk).Size -/
set_option maxRecDepth 100000 in
set_option maxHeartbeats 400000 in
theorem disk_Size_n  : Triple Try.prog 19 [.v (.pointer none)] [] (Is (.int 0) []) := by
  refine triple_of Try.func19 rfl (by kernel_rfl) rfl (by simp) ?_
  refine aSeq ?_
  refine aReg ?_
  refine sp pMa ?_
  refine oNil ?_
  refine aSeq ?_
  refine aSeq ?_
  refine aReg ?_
  refine sp pM ?_
  refine sp (by first | exact pPtrNil rfl (.inl rfl) rfl pt_25 rfl (rfl : _ = true) | exact pSpNil rfl (.inl rfl) rfl pt_25 (rfl : _ = true)) ?_
  refine oNil ?_
  refine aCondT rfl ?_
  refine aSeq ?_
  refine aReg ?_
  refine sp pMa ?_
  refine oNil ?_
  refine aRet ?_
  refine finIs rfl ?_
  rfl
/- disk.Disk).Size -/
set_option maxRecDepth 100000 in
set_option maxHeartbeats 400000 in
theorem disk_Size_e (zb : Nat) (a : Int) : Triple Try.prog 19 [.v (.pointer (some ⟨zb, 0, none⟩))] [.box zb [.int 0, .v (.map none), .v (.map none), .int a, .v (.bool false)]] (Is (.int 0) [.box zb [.int 0, .v (.map none), .v (.map none), .int a, .v (.bool false)]]) := by
  refine triple_of Try.func19 rfl (by kernel_rfl) rfl (by simp) ?_
  refine aSeq ?_
  refine aReg ?_
  refine sp pMa ?_
  refine oNil ?_
  refine aSeq ?_
  refine aSeq ?_
  refine aReg ?_
  refine sp pM ?_
  refine sp (by first | exact pPtrNil rfl (.inl rfl) rfl pt_25 rfl (rfl : _ = false) | exact pSpNil rfl (.inl rfl) rfl pt_25 (rfl : _ = false)) ?_
  refine oNil ?_
  refine aCondF rfl ?_
  refine aSkip ?_
  refine aSeq ?_
  refine aReg ?_
  refine sp pM ?_
  refine sp pNv ?_
  refine sp (pFb fd_42_0) ?_
  refine sr (rB1 ty_3) ?_
  refine sp pMa ?_
  refine oNil ?_
  refine aRet ?_
  refine finIs rfl ?_
  rfl
/- disk.Disk).Arm -/
set_option maxRecDepth 100000 in
set_option maxHeartbeats 400000 in
theorem disk_Arm_n (k : Int) : Triple Try.prog 12 [.v (.pointer none), .int k] [] (fun r h' => r = .tup [] ∧ h' = []) := by
  refine triple_of Try.func12 rfl (by kernel_rfl) rfl (by simp) ?_
  refine aSeq ?_
  refine aReg ?_
  refine sp pM ?_
  refine sp (by first | exact pPtrNil rfl (.inr rfl) rfl pt_25 rfl (rfl : _ = false) | exact pSpNil rfl (.inr rfl) rfl pt_25 (rfl : _ = false)) ?_
  refine oNil ?_
  refine aCondF rfl ?_
  refine aSkip ?_
  exact ⟨_, [], [], rfl, .nil, rfl, rfl⟩
/- disk.Disk).Arm -/
set_option maxRecDepth 100000 in
set_option maxHeartbeats 400000 in
theorem disk_Arm_e (zb : Nat) (a : Int) : Triple Try.prog 12 [.v (.pointer (some ⟨zb, 0, none⟩)), .int 1] [.box zb [.int 0, .v (.map none), .v (.map none), .int a, .v (.bool false)]] (fun r h' => r = .tup [] ∧ h' = [.box zb [.int 0, .v (.map none), .v (.map none), .int 1, .v (.bool false)]]) := by
  refine triple_of Try.func12 rfl (by kernel_rfl) rfl (by simp) ?_
  refine aSeq ?_
  refine aReg ?_
  refine sp pM ?_
  refine sp (by first | exact pPtrNil rfl (.inr rfl) rfl pt_25 rfl (rfl : _ = true) | exact pSpNil rfl (.inr rfl) rfl pt_25 (rfl : _ = true)) ?_
  refine oNil ?_
  refine aCondT rfl ?_
  refine aReg ?_
  refine sp pM ?_
  refine sp pM ?_
  refine sp pMax ?_
  refine sp pNv ?_
  refine sp (pFb fd_42_3) ?_
  refine sa ?_
  refine oStB rfl rfl rfl rfl (by repeat constructor) ty_3 rfl (Nat.le_of_ble_eq_true rfl) rfl ?_
  refine oNil ?_
  exact ⟨_, [_], [], rfl, .cons .hd .nil, rfl, rfl⟩
/- disk.Disk).Crash -/
set_option maxRecDepth 100000 in
set_option maxHeartbeats 400000 in
theorem disk_Crash_n  : Triple Try.prog 13 [.v (.pointer none), .v (.slice none 0 0)] [] (Is (.tup []) []) := by
  refine triple_of Try.func13 rfl (by kernel_rfl) rfl (by simp) ?_
  refine aSeq ?_
  refine aSeq ?_
  refine aReg ?_
  refine sp pM ?_
  refine sp (by first | exact pPtrNil rfl (.inl rfl) rfl pt_25 rfl (rfl : _ = true) | exact pSpNil rfl (.inl rfl) rfl pt_25 (rfl : _ = true)) ?_
  refine sp pM ?_
  refine gf ?_
  refine gf ?_
  refine gf ?_
  refine gf ?_
  refine gf ?_
  refine sp pK ?_
  refine oNil ?_
  refine aCondT rfl ?_
  refine aRet ?_
  refine finIs rfl ?_
  rfl
/- disk.Disk).Crash -/
set_option maxRecDepth 100000 in
set_option maxHeartbeats 400000 in
theorem disk_Crash_e (zb : Nat) (a : Int) : Triple Try.prog 13 [.v (.pointer (some ⟨zb, 0, none⟩)), .v (.slice none 0 0)] [.box zb [.int 0, .v (.map none), .v (.map none), .int a, .v (.bool false)]] (Is (.tup []) [.box zb [.int 0, .v (.map none), .v (.map none), .int a, .v (.bool false)]]) := by
  refine triple_of Try.func13 rfl (by kernel_rfl) rfl (by simp) ?_
  refine aSeq ?_
  refine aSeq ?_
  refine aReg ?_
  refine sp pM ?_
  refine sp (by first | exact pPtrNil rfl (.inl rfl) rfl pt_25 rfl (rfl : _ = false) | exact pSpNil rfl (.inl rfl) rfl pt_25 (rfl : _ = false)) ?_
  refine sp pM ?_
  refine gp pM ?_
  refine gp pNv ?_
  refine gp (pFb fd_42_0) ?_
  refine gr (rB1 ty_3) ?_
  refine gp (pBin rfl rfl rfl rfl (rfl : _ = Value.bool true)) ?_
  refine sp pK ?_
  refine oNil ?_
  refine aCondT rfl ?_
  refine aRet ?_
  refine finIs rfl ?_
  rfl
/- disk.Disk).Read -/
set_option maxRecDepth 100000 in
set_option maxHeartbeats 400000 in
theorem disk_Read_n (i : Int) : Triple Try.prog 14 [.v (.pointer none), .int i] [] (Is (.tup [.v (.slice none 0 0), .int 7]) []) := by
  refine triple_of Try.func14 rfl (by kernel_rfl) rfl (by simp) ?_
  refine aSeq ?_
  refine aReg ?_
  refine sp pMa ?_
  refine sp pMa ?_
  refine oNil ?_
  refine aSeq ?_
  refine aBlock ?_
  refine aSeq ?_
  refine aReg ?_
  refine sp pM ?_
  refine sq ?_
  refine ci rfl rfl rfl disk_off_n ?_
  refine sp pMa ?_
  refine oNil ?_
  refine aCondT rfl ?_
  refine aSeq ?_
  refine aReg ?_
  refine sp pMa ?_
  refine sp pMa ?_
  refine oNil ?_
  refine aRet ?_
  refine finIs rfl ?_
  rfl
/- disk.Disk).Read -/
set_option maxRecDepth 100000 in
set_option maxHeartbeats 400000 in
theorem disk_Read_e (zb : Nat) (a i : Int) : Triple Try.prog 14 [.v (.pointer (some ⟨zb, 0, none⟩)), .int i] [.box zb [.int 0, .v (.map none), .v (.map none), .int a, .v (.bool false)]] (Is (.tup [.v (.slice none 0 0), .int 7]) [.box zb [.int 0, .v (.map none), .v (.map none), .int a, .v (.bool false)]]) := by
  refine triple_of Try.func14 rfl (by kernel_rfl) rfl (by simp) ?_
  refine aSeq ?_
  refine aReg ?_
  refine sp pMa ?_
  refine sp pMa ?_
  refine oNil ?_
  refine aSeq ?_
  refine aBlock ?_
  refine aSeq ?_
  refine aReg ?_
  refine sp pM ?_
  refine sa ?_
  refine cai rfl rfl rfl (disk_off_e zb a) ?_
  refine sp pMa ?_
  refine oNil ?_
  refine aCondT rfl ?_
  refine aSeq ?_
  refine aReg ?_
  refine sp pMa ?_
  refine sp pMa ?_
  refine oNil ?_
  refine aRet ?_
  refine finIs rfl ?_
  rfl
/- disk.Disk).Write -/
set_option maxRecDepth 100000 in
set_option maxHeartbeats 400000 in
theorem disk_Write_n (i : Int) (x : AV) : Triple Try.prog 16 [.v (.pointer none), .int i, x] [] (Is (.int 7) []) := by
  refine triple_of Try.func16 rfl (by kernel_rfl) rfl (by simp) ?_
  refine aSeq ?_
  refine aReg ?_
  refine sp pMa ?_
  refine oNil ?_
  refine aSeq ?_
  refine aBlock ?_
  refine aSeq ?_
  refine aReg ?_
  refine sp pM ?_
  refine sq ?_
  refine ci rfl rfl rfl disk_off_n ?_
  refine sp pMa ?_
  refine oNil ?_
  refine aCondT rfl ?_
  refine aSeq ?_
  refine aReg ?_
  refine sp pMa ?_
  refine oNil ?_
  refine aRet ?_
  refine finIs rfl ?_
  rfl
/- disk.Disk).Write -/
set_option maxRecDepth 100000 in
set_option maxHeartbeats 400000 in
theorem disk_Write_e (zb : Nat) (a i : Int) (x : AV) : Triple Try.prog 16 [.v (.pointer (some ⟨zb, 0, none⟩)), .int i, x] [.box zb [.int 0, .v (.map none), .v (.map none), .int a, .v (.bool false)]] (Is (.int 7) [.box zb [.int 0, .v (.map none), .v (.map none), .int a, .v (.bool false)]]) := by
  refine triple_of Try.func16 rfl (by kernel_rfl) rfl (by simp) ?_
  refine aSeq ?_
  refine aReg ?_
  refine sp pMa ?_
  refine oNil ?_
  refine aSeq ?_
  refine aBlock ?_
  refine aSeq ?_
  refine aReg ?_
  refine sp pM ?_
  refine sa ?_
  refine cai rfl rfl rfl (disk_off_e zb a) ?_
  refine sp pMa ?_
  refine oNil ?_
  refine aCondT rfl ?_
  refine aSeq ?_
  refine aReg ?_
  refine sp pMa ?_
  refine oNil ?_
  refine aRet ?_
  refine finIs rfl ?_
  rfl
/- disk.Disk).Flush -/
set_option maxRecDepth 100000 in
set_option maxHeartbeats 400000 in
theorem disk_Flush_n  : Triple Try.prog 18 [.v (.pointer none)] [] (Is (.int 7) []) := by
  refine triple_of Try.func18 rfl (by kernel_rfl) rfl (by simp) ?_
  refine aSeq ?_
  refine aReg ?_
  refine sp pMa ?_
  refine oNil ?_
  refine aSeq ?_
  refine aSeq ?_
  refine aReg ?_
  refine sp pM ?_
  refine sq ?_
  refine ci rfl rfl rfl disk_off_n ?_
  refine oNil ?_
  refine aCondT rfl ?_
  refine aSeq ?_
  refine aReg ?_
  refine sp pMa ?_
  refine oNil ?_
  refine aRet ?_
  refine finIs rfl ?_
  rfl
/- disk.Disk).Flush -/
set_option maxRecDepth 100000 in
set_option maxHeartbeats 400000 in
theorem disk_Flush_e (zb : Nat) (a : Int) : Triple Try.prog 18 [.v (.pointer (some ⟨zb, 0, none⟩))] [.box zb [.int 0, .v (.map none), .v (.map none), .int a, .v (.bool false)]] (Is (.int 7) [.box zb [.int 0, .v (.map none), .v (.map none), .int a, .v (.bool false)]]) := by
  refine triple_of Try.func18 rfl (by kernel_rfl) rfl (by simp) ?_
  refine aSeq ?_
  refine aReg ?_
  refine sp pMa ?_
  refine oNil ?_
  refine aSeq ?_
  refine aSeq ?_
  refine aReg ?_
  refine sp pM ?_
  refine sa ?_
  refine cai rfl rfl rfl (disk_off_e zb a) ?_
  refine oNil ?_
  refine aCondT rfl ?_
  refine aSeq ?_
  refine aReg ?_
  refine sp pMa ?_
  refine oNil ?_
  refine aRet ?_
  refine finIs rfl ?_
  rfl
/- disk.Disk).Waits -/
set_option maxRecDepth 100000 in
set_option maxHeartbeats 400000 in
theorem disk_Waits_n  : Triple Try.prog 20 [.v (.pointer none)] [] (Is (.v (.slice none 0 0)) []) := by
  refine triple_of Try.func20 rfl (by kernel_rfl) rfl (by simp) ?_
  refine aSeq ?_
  refine aReg ?_
  refine sp pMa ?_
  refine oNil ?_
  refine aSeq ?_
  refine aSeq ?_
  refine aReg ?_
  refine sp pM ?_
  refine sp (by first | exact pPtrNil rfl (.inl rfl) rfl pt_25 rfl (rfl : _ = true) | exact pSpNil rfl (.inl rfl) rfl pt_25 (rfl : _ = true)) ?_
  refine oNil ?_
  refine aCondT rfl ?_
  refine aSeq ?_
  refine aReg ?_
  refine sp pMa ?_
  refine oNil ?_
  refine aRet ?_
  refine finIs rfl ?_
  rfl
/- maps.Keys[map[int][]byte,int,[]byte]$1 -/
set_option maxRecDepth 100000 in
set_option maxHeartbeats 400000 in
theorem keys1n (pb : Nat) (l : Nat) (I : List (List AV) → List HA → Prop) (S : List HA → Prop) (hc0 : List HA) (h0 : I [] hc0) : Triple Try.prog 69 [.fn (.yield l) [], .v (.pointer (some ⟨pb, 0, none⟩))] (.box pb [.v (.map none)] :: hc0) (fun r h' => ∃ hc', h' = .box pb [.v (.map none)] :: hc' ∧ ((∃ xs, KE [] xs ∧ I xs hc') ∨ S hc')) := by
  refine triple_of Try.func69 rfl (by kernel_rfl) rfl (by simp) ?_
  refine aSeq ?_
  refine aReg ?_
  refine sr (rB1 ty_40) ?_
  refine sa ?_
  refine oRangeNil rfl rfl (by decide) rfl um_40 (fun r5 => ?_)
  refine oNil ?_
  refine aBlock ?_
  refine aLoopI (α := Unit) (fun _ => True) (fun _ => ([(0, .fn (.yield l) []), (5, .v (.pointer (some ⟨r5, 0, none⟩)))], .obj r5 (.mapIter none 0 #[] 0) :: .box pb [.v (.map none)] :: hc0)) (fun _ => 0) () ?_ ?_ ?_
  · skip
    trivial
  · skip
    exact weak_env ⟨rfl, rfl, trivial⟩
  · rintro _ _
    skip
    refine aSeq ?_
    refine aReg ?_
    refine sa ?_
    refine oNextNil rfl rfl (by decide) rfl .hd ?_
    refine sp pX ?_
    refine oNil ?_
    refine aSeq ?_
    refine aCondF rfl ?_
    refine aExit rfl ?_
    exact ⟨_, _, [_], rfl, .cons (.tl .hd) (tk_after (l := [_])), hc0, rfl, .inl ⟨[], ⟨[], rfl, .nil⟩, h0⟩⟩
theorem keys1n_iter (pb : Nat) : IterT Try.prog 69 [.v (.pointer (some ⟨pb, 0, none⟩))] (KNx []) (KE []) [.box pb [.v (.map none)]] :=
  ⟨⟨_, Try.func69, by kernel_rfl, rfl⟩, fun l I S hy hc h0 => keys1n pb l I S hc h0⟩
/- maps.Keys[map[int][]byte,int,[]byte] -/
set_option maxRecDepth 100000 in
set_option maxHeartbeats 400000 in
theorem keysn  : Triple Try.prog 44 [.v (.map none)] [] (fun r h' => ∃ pb, r = .fn (.func 69) [.v (.pointer (some ⟨pb, 0, none⟩))] ∧ h' = [.box pb [.v (.map none)]]) := by
  refine triple_of Try.func44 rfl (by kernel_rfl) rfl (by simp) ?_
  refine aSeq ?_
  refine aReg ?_
  refine sq ?_
  refine qBox rfl rfl (by decide) rfl rfl (fun b1 => ?_)
  refine sp pMa ?_
  refine oNil ?_
  refine aSeq ?_
  refine aReg ?_
  refine sp (pFn rfl rfl) ?_
  refine sp pMa ?_
  refine oNil ?_
  refine aRet ?_
  exact ⟨_, [_], [], rfl, .cons .hd .nil, b1, rfl, rfl⟩
/- disk.Disk).Waits -/
set_option maxRecDepth 100000 in
set_option maxHeartbeats 400000 in
theorem disk_Waits_e (zb : Nat) (a : Int) : Triple Try.prog 20 [.v (.pointer (some ⟨zb, 0, none⟩))] [.box zb [.int 0, .v (.map none), .v (.map none), .int a, .v (.bool false)]] (Own 3 1 ([] : List (List AV)) [.box zb [.int 0, .v (.map none), .v (.map none), .int a, .v (.bool false)]]) := by
  refine triple_of Try.func20 rfl (by kernel_rfl) rfl (by simp) ?_
  refine aSeq ?_
  refine aReg ?_
  refine sp pMa ?_
  refine oNil ?_
  refine aSeq ?_
  refine aSeq ?_
  refine aReg ?_
  refine sp pM ?_
  refine sp (by first | exact pPtrNil rfl (.inl rfl) rfl pt_25 rfl (rfl : _ = false) | exact pSpNil rfl (.inl rfl) rfl pt_25 (rfl : _ = false)) ?_
  refine oNil ?_
  refine aCondF rfl ?_
  refine aSkip ?_
  refine aSeq ?_
  refine aReg ?_
  refine sp pM ?_
  refine sp pNv ?_
  refine sp (pFb fd_42_2) ?_
  refine sr (rB1 ty_40) ?_
  refine sa ?_
  refine ca rfl rfl rfl keysn ?_
  rintro _ _ ⟨pb, rfl, rfl⟩
  refine sa ?_
  refine ca rfl rfl rfl (sorted_int _ _ [] _ (keys1n_iter pb) (by decide)) ?_
  rintro _ _ ⟨g, c, rfl, rfl⟩
  rw [show sortI (List.map Prod.fst ([] : List (Int × AV))) = [] by simp [sortI]]
  refine sp pMa ?_
  refine oNil ?_
  refine aRet ?_
  refine finOwn rfl ?_
  rfl
/- maps.Clone[map[int][]byte,int,[]byte] -/
set_option maxRecDepth 100000 in
set_option maxHeartbeats 400000 in
theorem clone_dn  : Triple Try.prog 37 [.v (.map none)] [] (Is (.v (.map none)) []) := by
  refine triple_of Try.func37 rfl (by kernel_rfl) rfl (by simp) ?_
  refine aSeq ?_
  refine aReg ?_
  refine sp pMa ?_
  refine oNil ?_
  refine aSeq ?_
  refine aSeq ?_
  refine aReg ?_
  refine sp pM ?_
  refine sp (pMapNil um_40) ?_
  refine oNil ?_
  refine aCondT rfl ?_
  refine aSeq ?_
  refine aReg ?_
  refine sp pMa ?_
  refine oNil ?_
  refine aRet ?_
  refine finIs rfl ?_
  rfl
/- disk.Disk).Clone -/
set_option maxRecDepth 100000 in
set_option maxHeartbeats 400000 in
theorem disk_Clone_n  : Triple Try.prog 11 [.v (.pointer none)] [] (Is (.v (.pointer none)) []) := by
  refine triple_of Try.func11 rfl (by kernel_rfl) rfl (by simp) ?_
  refine aSeq ?_
  refine aReg ?_
  refine sp pMa ?_
  refine oNil ?_
  refine aSeq ?_
  refine aSeq ?_
  refine aReg ?_
  refine sp pM ?_
  refine sp (by first | exact pPtrNil rfl (.inl rfl) rfl pt_25 rfl (rfl : _ = true) | exact pSpNil rfl (.inl rfl) rfl pt_25 (rfl : _ = true)) ?_
  refine oNil ?_
  refine aCondT rfl ?_
  refine aSeq ?_
  refine aReg ?_
  refine sp pMa ?_
  refine oNil ?_
  refine aRet ?_
  refine finIs rfl ?_
  rfl
/- disk.Disk).Clone -/
def disk_Clone_e_r4_T : Bool × List (List Nat × List Nat) := (true, [([], []), ([0], [0]), ([1], [1]), ([2], [2]), ([3], [3]), ([], []), ([5], [5]), ([6], [6]), ([7], [7]), ([8, 4], [8]), ([0, 1, 2, 3, 4, 8, 9], []), ([10, 4, 9, 0, 1, 2, 3, 4, 8, 9], [4, 10]), ([0, 1, 2, 3, 4, 5, 6, 7, 8, 9, 10, 11], []), ([12, 9, 11, 0, 1, 2, 3, 4, 5, 6, 7, 8, 9, 10, 11], [9, 12])])
def disk_Clone_e_r4_B : List Nat := [0, 1, 3, 7, 15, 0, 32, 96, 224, 511, 1023, 2047, 4095, 8191]
theorem disk_Clone_e_r4_t : Go.Proofs.YtnabkchagjjjnaaW.PrintLast.rtab .any (Go.Proofs.YtnabkchagjjjnaaW.PrintLast.opsOf Try.f11 4) = disk_Clone_e_r4_T := by kernel_rfl
theorem disk_Clone_e_r4_b : Go.Proofs.YtnabkchagjjjnaaW.PrintLast.waitsOk disk_Clone_e_r4_T.2 disk_Clone_e_r4_B = true := by kernel_rfl
set_option maxRecDepth 100000 in
set_option maxHeartbeats 400000 in
theorem disk_Clone_e (zb : Nat) (a : Int) : Triple Try.prog 11 [.v (.pointer (some ⟨zb, 0, none⟩))] [.box zb [.int 0, .v (.map none), .v (.map none), .int a, .v (.bool false)]] (fun q h' => ∃ cb, q = .v (.pointer (some ⟨cb, 0, none⟩)) ∧ h' = [.box cb [.int 0, .v (.map none), .v (.map none), .int a, .v (.bool false)]] ++ [.box zb [.int 0, .v (.map none), .v (.map none), .int a, .v (.bool false)]]) := by
  refine triple_of Try.func11 rfl (by kernel_rfl) rfl (by simp) ?_
  refine aSeq ?_
  refine aReg ?_
  refine sp pMa ?_
  refine oNil ?_
  refine aSeq ?_
  refine aSeq ?_
  refine aReg ?_
  refine sp pM ?_
  refine sp (by first | exact pPtrNil rfl (.inl rfl) rfl pt_25 rfl (rfl : _ = false) | exact pSpNil rfl (.inl rfl) rfl pt_25 (rfl : _ = false)) ?_
  refine oNil ?_
  refine aCondF rfl ?_
  refine aSkip ?_
  refine aSeq ?_
  refine aReg ?_
  refine sp pM ?_
  refine sp pNv ?_
  refine sr (by first | exact rBWa ty_42 | exact rBW ty_42 | exact rBA ty_42) ?_
  refine sq ?_
  refine qAlloc rfl rfl (by decide) ze_42 rfl (fun b3 => ?_)
  refine sa ?_
  refine oStW rfl rfl rfl rfl (by repeat constructor) ty_42 ?_
  refine oNil ?_
  refine aSeq ?_
  refine aDrawT disk_Clone_e_r4_t disk_Clone_e_r4_b [11, 13] 14 #[false, false, false, false, false, false, false, false, false, false, false, false, false, false] (by kernel_rfl) rfl rfl (fun HT => ?_)
  refine dp HT 0 rfl pM ?_
  refine dp HT 1 rfl pNv ?_
  refine dp HT 2 rfl (pFb fd_42_1) ?_
  refine dr HT 3 rfl (rB1 ty_40) ?_
  refine dp HT 5 rfl pM ?_
  refine dp HT 6 rfl pNv ?_
  refine dp HT 7 rfl (pFb fd_42_2) ?_
  refine dr HT 8 rfl (rB1 ty_40) ?_
  refine dGo ?_
  refine e1 HT 4 rfl ?_
  refine ci rfl rfl rfl clone_dn ?_
  refine e1 HT 9 rfl ?_
  refine ci rfl rfl rfl clone_dn ?_
  refine ep HT 10 rfl (pFb fd_42_1) ?_
  refine eLast ?_
  refine f1 HT 11 rfl ?_
  refine oStB rfl rfl rfl rfl (by repeat constructor) ty_40 rfl (Nat.le_of_ble_eq_true rfl) rfl ?_
  refine fp HT 12 rfl (pFb fd_42_2) ?_
  refine f1 HT 13 rfl ?_
  refine oStB rfl rfl rfl rfl (by repeat constructor) ty_40 rfl (Nat.le_of_ble_eq_true rfl) rfl ?_
  refine fE HT ?_
  clear HT
  refine aSeq ?_
  refine aReg ?_
  refine sp pMa ?_
  refine oNil ?_
  refine aRet ?_
  exact ⟨_, [_, _], [], rfl, (.cons .hd (.cons .hd .nil)), b3, rfl, rfl⟩
/- disk.Disk).Clone -/
def disk_Clone_r4_T : Bool × List (List Nat × List Nat) := (true, [([], []), ([0], [0]), ([1], [1]), ([2], [2]), ([3], [3]), ([], []), ([5], [5]), ([6], [6]), ([7], [7]), ([8, 4], [8]), ([0, 1, 2, 3, 4, 8, 9], []), ([10, 4, 9, 0, 1, 2, 3, 4, 8, 9], [4, 10]), ([0, 1, 2, 3, 4, 5, 6, 7, 8, 9, 10, 11], []), ([12, 9, 11, 0, 1, 2, 3, 4, 5, 6, 7, 8, 9, 10, 11], [9, 12])])
def disk_Clone_r4_B : List Nat := [0, 1, 3, 7, 15, 0, 32, 96, 224, 511, 1023, 2047, 4095, 8191]
theorem disk_Clone_r4_t : Go.Proofs.YtnabkchagjjjnaaW.PrintLast.rtab .any (Go.Proofs.YtnabkchagjjjnaaW.PrintLast.opsOf Try.f11 4) = disk_Clone_r4_T := by kernel_rfl
theorem disk_Clone_r4_b : Go.Proofs.YtnabkchagjjjnaaW.PrintLast.waitsOk disk_Clone_r4_T.2 disk_Clone_r4_B = true := by kernel_rfl
set_option maxRecDepth 100000 in
set_option maxHeartbeats 400000 in
theorem disk_Clone (db bs bw n : Nat) (S W : List (Int × BS)) (w : DW) : Triple Try.prog 11 [.v (.pointer (some ⟨db, 0, none⟩))] [.box db [.int n, .v (.map (some bs)), .v (.map (some bw)), .int w.armed, .v (.bool w.dead)], .map bs (kvA S), .map bw (kvA W)] (fun q h' => ∃ cb cs cw, q = .v (.pointer (some ⟨cb, 0, none⟩)) ∧ h' = [.box cb [.int n, .v (.map (some cs)), .v (.map (some cw)), .int w.armed, .v (.bool w.dead)], .map cs (kvA S), .map cw (kvA W)] ++ [.box db [.int n, .v (.map (some bs)), .v (.map (some bw)), .int w.armed, .v (.bool w.dead)], .map bs (kvA S), .map bw (kvA W)]) := by
  refine triple_of Try.func11 rfl (by kernel_rfl) rfl (by simp) ?_
  refine aSeq ?_
  refine aReg ?_
  refine sp pMa ?_
  refine oNil ?_
  refine aSeq ?_
  refine aSeq ?_
  refine aReg ?_
  refine sp pM ?_
  refine sp (by first | exact pPtrNil rfl (.inl rfl) rfl pt_25 rfl (rfl : _ = false) | exact pSpNil rfl (.inl rfl) rfl pt_25 (rfl : _ = false)) ?_
  refine oNil ?_
  refine aCondF rfl ?_
  refine aSkip ?_
  refine aSeq ?_
  refine aReg ?_
  refine sp pM ?_
  refine sp pNv ?_
  refine sr (by first | exact rBWa ty_42 | exact rBW ty_42 | exact rBA ty_42) ?_
  refine sq ?_
  refine qAlloc rfl rfl (by decide) ze_42 rfl (fun b3 => ?_)
  refine sa ?_
  refine oStW rfl rfl rfl rfl (by repeat constructor) ty_42 ?_
  refine oNil ?_
  refine aSeq ?_
  refine aDrawS (h1 := [.box db _]) disk_Clone_r4_t disk_Clone_r4_b [] 14 #[false, false, false, false, false, false, false, false, false, false, false, false, false, false] (by kernel_rfl) rfl rfl (.cons (by repeat constructor) .nil) (fun HT => ?_)
  refine ep HT 0 rfl pM ?_
  refine ep HT 1 rfl pNv ?_
  refine ep HT 2 rfl (pFb fd_42_1) ?_
  refine er HT 3 rfl (rB1 ty_40) ?_
  refine ep HT 5 rfl pM ?_
  refine ep HT 6 rfl pNv ?_
  refine ep HT 7 rfl (pFb fd_42_2) ?_
  refine er HT 8 rfl (rB1 ty_40) ?_
  refine eOneS (i := 4) #[true, true, true, true, true, true, true, true, true, false, false, false, false, false] rfl (HT.one (by kernel_rfl)) (by decide) ?_
  · skip
    refine stA (hx := [.map bs _]) (wantN rfl) (fun t ht => by cases ht <;> decide) (.cons (by repeat constructor) .nil) (by repeat constructor) ?_
    refine ca rfl rfl rfl (clone_dm bs S) ?_
    rintro _ _ ⟨cs, rfl, rfl⟩
    refine undel (d := 13) rfl ?_
    dsimp only [List.cons_append, List.nil_append]
    refine eOneS (i := 9) #[true, true, true, true, true, true, true, true, true, true, false, false, false, false] rfl (HT.one (by kernel_rfl)) (by decide) ?_
    · skip
      refine stA (hx := [.map bw _]) (wantN rfl) (fun t ht => by cases ht <;> decide) (.cons (by repeat constructor) .nil) (by repeat constructor) ?_
      refine ca rfl rfl rfl (clone_dm bw W) ?_
      rintro _ _ ⟨cw, rfl, rfl⟩
      refine undel (d := 18) rfl ?_
      dsimp only [List.cons_append, List.nil_append]
      refine ep HT 10 rfl (pFb fd_42_1) ?_
      refine eOneS (i := 11) #[true, true, true, true, true, true, true, true, true, true, true, true, false, false] rfl (HT.one (by kernel_rfl)) (by decide) ?_
      · skip
        refine stA (hx := [.box b3 _]) (wantN rfl) (fun t ht => by cases ht <;> decide) (.cons (by repeat constructor) .nil) (by repeat constructor) ?_
        refine oStB rfl rfl rfl rfl (by repeat constructor) ty_40 rfl (Nat.le_of_ble_eq_true rfl) rfl ?_
        dsimp only [List.cons_append, List.nil_append]
        refine ep HT 12 rfl (pFb fd_42_2) ?_
        refine eOneS (i := 13) #[true, true, true, true, true, true, true, true, true, true, true, true, true, true] rfl (HT.one (by kernel_rfl)) (by decide) ?_
        · skip
          refine stA (hx := [.box b3 _]) (wantN rfl) (fun t ht => by cases ht <;> decide) (.cons (by repeat constructor) .nil) (by repeat constructor) ?_
          refine oStB rfl rfl rfl rfl (by repeat constructor) ty_40 rfl (Nat.le_of_ble_eq_true rfl) rfl ?_
          dsimp only [List.cons_append, List.nil_append]
          refine eE HT ?_
          clear HT
          refine aSeq ?_
          refine aReg ?_
          refine sp pMa ?_
          refine oNil ?_
          refine aRet ?_
          exact ⟨_, [_, _, _, _, _, _], [], rfl, (.cons (by repeat constructor) (.cons (by repeat constructor) (.cons (by repeat constructor) (.cons (by repeat constructor) (.cons (by repeat constructor) (.cons (by repeat constructor) .nil)))))), b3, cs, cw, rfl, rfl⟩
end A
end Go.Proofs.Ytnabkchagjjjnaa
set_option linter.unusedVariables false
set_option linter.unusedSimpArgs false
namespace Go.Proofs.Ytnabkchagjjjnaa
namespace A
theorem ty_38 : tyOf Try.prog 38 = some (5, true) := by kernel_rfl
theorem light_len {l : List DAct} (h : lightB l = true) : l.length ≤ 40 := by simp only [lightB, Bool.and_eq_true, decide_eq_true_eq] at h; exact h.1
theorem light_at {l : List DAct} (h : lightB l = true) {i : Nat} {a : DAct} (ha : l[i]? = some a) : actOk a = true := by
  simp only [lightB, Bool.and_eq_true, List.all_eq_true] at h
  exact h.2 a (List.mem_of_getElem? ha)
/- waymarklaw03.DiskClones -/
def law03_DiskClones_r10_T : Bool × List (List Nat × List Nat) := (true, [([], []), ([], []), ([], []), ([], []), ([2, 3], [2, 3]), ([4], [4]), ([0, 1, 5], [0, 1, 5]), ([6], [6]), ([7], [7]), ([7], [7]), ([8, 6, 0, 1, 2, 3, 4, 5, 6, 7, 8], [8])])
def law03_DiskClones_r10_B : List Nat := [0, 0, 0, 0, 12, 28, 63, 127, 255, 255, 511]
theorem law03_DiskClones_r10_t : Go.Proofs.YtnabkchagjjjnaaW.PrintLast.rtab .any (Go.Proofs.YtnabkchagjjjnaaW.PrintLast.opsOf Try.f3 10) = law03_DiskClones_r10_T := by kernel_rfl
theorem law03_DiskClones_r10_b : Go.Proofs.YtnabkchagjjjnaaW.PrintLast.waitsOk law03_DiskClones_r10_T.2 law03_DiskClones_r10_B = true := by kernel_rfl
def law03_DiskClones_r16_T : Bool × List (List Nat × List Nat) := (true, [([], []), ([], []), ([], []), ([], []), ([2, 3], [2, 3]), ([4], [4]), ([0, 1, 5], [0, 1, 5]), ([6], [6]), ([7], [7]), ([7], [7]), ([8, 6, 0, 1, 2, 3, 4, 5, 6, 7, 8], [8])])
def law03_DiskClones_r16_B : List Nat := [0, 0, 0, 0, 12, 28, 63, 127, 255, 255, 511]
theorem law03_DiskClones_r16_t : Go.Proofs.YtnabkchagjjjnaaW.PrintLast.rtab .any (Go.Proofs.YtnabkchagjjjnaaW.PrintLast.opsOf Try.f3 16) = law03_DiskClones_r16_T := by kernel_rfl
theorem law03_DiskClones_r16_b : Go.Proofs.YtnabkchagjjjnaaW.PrintLast.waitsOk law03_DiskClones_r16_T.2 law03_DiskClones_r16_B = true := by kernel_rfl
set_option maxRecDepth 100000 in
set_option maxHeartbeats 4000000 in
theorem law03_DiskClones (l more : List DAct) (hl : l.length ≤ 9223372036854775807) (hm : more.length ≤ 9223372036854775807) (ha : ∀ a ∈ l, a.n ≤ 9223372036854775807) (hb : ∀ a ∈ more, a.n ≤ 9223372036854775807) : Triple Try.prog 3 [.sl 5 (l.map dactC), .sl 5 (more.map dactC)] [] (fun q h' => q = .v (.bool true) ∧ h' = []) := by
  refine triple_of Try.func3 rfl (by kernel_rfl) rfl (by simp) ?_
  refine aSeq ?_
  refine aReg ?_
  refine sp pMa ?_
  refine oNil ?_
  refine aSeq ?_
  refine aSeq ?_
  refine aReg ?_
  refine sp pM ?_
  refine sq ?_
  refine qCallV rfl rfl (by decide) rfl rfl (lents_refl _) (law03_Light l hl) ?_
  refine sp pNo ?_
  refine sp pM ?_
  refine oSplitNot 19 rfl (fun c19 => ?_) (fun c19 => ?_)
  · skip
    refine gf ?_
    refine gf ?_
    refine gf ?_
    refine sp pK ?_
    refine oNil ?_
    refine aCondT rfl ?_
    refine aSeq ?_
    refine aReg ?_
    refine sq ?_
    refine qCallV rfl rfl (by decide) rfl rfl (lents_refl _) law03_awake ?_
    refine sp pMa ?_
    refine oNil ?_
    refine aRet ?_
    exact ⟨_, [], _, rfl, .nil, rfl, rfl⟩
  · skip
    refine gp pM ?_
    refine ga ?_
    refine (qCallV rfl rfl (by decide) rfl rfl (lents_refl _) (law03_Light more hm) ?_).op
    refine gp pNo ?_
    refine sp pK ?_
    refine oNil ?_
    refine aCondNot rfl (fun c23 => ?_) (fun c23 => ?_)
    · skip
      refine aSeq ?_
      refine aReg ?_
      refine sq ?_
      refine qCallV rfl rfl (by decide) rfl rfl (lents_refl _) law03_awake ?_
      refine sp pMa ?_
      refine oNil ?_
      refine aRet ?_
      exact ⟨_, [], _, rfl, .nil, rfl, rfl⟩
    · skip
      refine aSkip ?_
      refine aSeq ?_
      have hok : lightB l = true := by simp_all
      have hok2 : lightB more = true := by simp_all
      have hll := light_len hok
      have hml := light_len hok2
      refine aReg ?_
      refine sa ?_
      refine aCall rfl rfl (by decide) rfl rfl .nil (disk_New 5 (by decide) (by decide)) ?_
      rintro _ _ ⟨db, bs, bw, rfl, rfl⟩
      refine sp pM ?_
      refine sp pX ?_
      refine sp pX ?_
      refine sp pMa ?_
      refine sp pMa ?_
      refine oNil ?_
      refine aSeq ?_
      refine aSeq ?_
      refine aReg ?_
      refine sp pM ?_
      refine sp (pBin rfl rfl rfl rfl (rfl : _ = Value.bool false)) ?_
      refine sp pM ?_
      refine gp pM ?_
      refine gp (by first | exact pPtrNil rfl (.inl rfl) rfl pt_25 rfl (rfl : _ = false) | exact pSpNil rfl (.inl rfl) rfl pt_25 (rfl : _ = false)) ?_
      refine sp pK ?_
      refine oNil ?_
      refine aCondF rfl ?_
      refine aSkip ?_
      refine aSeq ?_
      refine aReg ?_
      refine sq ?_
      refine qCall0 rfl rfl (by decide) rfl rfl (ref03_New 5 (by omega) (by omega)) ?_
      rintro _ _ ⟨rfl, rfl⟩
      refine sq ?_
      refine qAlloc rfl rfl (by decide) ze_31 rfl (fun b7 => ?_)
      refine sa ?_
      refine oStW rfl rfl rfl rfl (by repeat constructor) ty_31 ?_
      refine oNil ?_
      refine aSeq ?_
      refine aSeq ?_
      refine aReg ?_
      refine sp pMa ?_
      refine oNil ?_
      refine aBlock ?_
      refine loopF (α := Nat × List (Int × BS) × List (Int × BS) × DW) (kept := [(0, _), (1, _), (5, _), (7, _)]) (fun (i, S, W, w) => i ≤ l.length ∧ Rel 5 S W w) (fun (i, S, W, w) => [(8, .int i)]) (fun (i, S, W, w) => (.box b7 (dwC w) :: [.box db [.int 5, .v (.map (some bs)), .v (.map (some bw)), .int w.armed, .v (.bool w.dead)], .map bs (kvA S), .map bw (kvA W)])) (fun (i, S, W, w) => l.length - i) (0, [], [], DW.new 5) ?_ ⟨gInt rfl (by first | rfl | omega | simp), rfl, rfl, rfl, rfl, trivial⟩ (by repeat constructor) ?_
      · skip
        exact ⟨Nat.zero_le _, rel_new (by omega) (by omega)⟩
      · rintro ⟨i, S, W, w⟩ ⟨hi, r⟩
        refine aSeq ?_
        refine aSeq ?_
        refine aReg ?_
        refine sp pM ?_
        refine sp pM ?_
        refine sp (by first | exact pLm sl_22 | exact pLs sl_22) ?_
        refine sp pB ?_
        refine oNil ?_
        refine aCondDec rfl (fun c39 => ?_) (fun c39 => ?_)
        · skip
          refine aSkip ?_
          refine aSeq ?_
          refine aBlock ?_
          obtain ⟨a, hai⟩ : ∃ a, l[i]? = some a := ⟨_, List.getElem?_eq_getElem (by omega)⟩
          refine aDrawS (h1 := [.box b7 _]) law03_DiskClones_r10_t law03_DiskClones_r10_b [10] 11 #[false, false, false, false, false, false, false, false, false, false, false] (by kernel_rfl) rfl rfl (.cons (by repeat constructor) .nil) (fun HT => ?_)
          refine ep HT 0 rfl pM ?_
          refine er HT 1 rfl (by first | exact rBWa ty_31 | exact rBW ty_31 | exact rBA ty_31) ?_
          refine ep HT 2 rfl pM ?_
          refine ep HT 3 rfl pM ?_
          refine ep HT 4 rfl (pIdxS rfl rfl rfl es_22 (by omega) (map_get1 (f := dactC) hai)) ?_
          refine er HT 5 rfl (by first | exact rSW ty_38 rfl | exact rSA ty_38) ?_
          refine eOneS (i := 6) #[true, true, true, true, true, true, true, false, false, false, false] rfl (HT.one (by kernel_rfl)) (by decide) ?_
          · skip
            refine stA (hx := [.box db [.int 5, .v (.map (some bs)), .v (.map (some bw)), .int w.armed, .v (.bool w.dead)], .map bs (kvA S), .map bw (kvA W)]) (wantN rfl) (fun t ht => by cases ht <;> decide) (.cons (by repeat constructor) (.cons (by repeat constructor) (.cons (by repeat constructor) .nil))) (by repeat constructor) ?_
            refine aCall rfl rfl (by decide) rfl rfl tk_refl (law03_Do db bs bw 5 S W w w r r.fit a (light_at hok hai) (ha a (List.mem_of_getElem? hai))) ?_
            rintro _ _ ⟨rfl, S', W', r', rfl⟩
            refine undel (d := 49) rfl ?_
            dsimp only [List.cons_append, List.nil_append]
            refine ef HT 7 rfl pM ?_
            refine ef HT 8 rfl pX ?_
            refine ef HT 9 rfl pX ?_
            refine eLast ?_
            refine f1 HT 10 rfl ?_
            refine oStW rfl rfl rfl rfl (by repeat constructor) ty_31 ?_
            refine fE HT ?_
            clear HT
            refine aReg ?_
            refine sp pM ?_
            refine sp pAd ?_
            refine sp pMa ?_
            refine oNil ?_
            refine ⟨(i + 1, S', W', (w.act1 a).1), ?_, by (try dsimp only); omega, ⟨gInt rfl (by first | rfl | omega | simp), rfl, rfl, rfl, rfl, trivial⟩, _, (by repeat constructor)⟩
            exact ⟨by omega, r'⟩
        · skip
          refine aExit rfl ?_
          refine aSeq ?_
          refine aReg ?_
          refine sp pM ?_
          refine sa ?_
          refine ca rfl rfl rfl (disk_Clone db bs bw 5 S W w) ?_
          rintro _ _ ⟨cb, cs, cw, rfl, rfl⟩
          refine sp pMa ?_
          refine oNil ?_
          refine aSeq ?_
          refine aReg ?_
          refine sr (by first | exact rBWa ty_31 | exact rBW ty_31 | exact rBA ty_31) ?_
          refine sq ?_
          refine qAlloc rfl rfl (by decide) ze_31 rfl (fun b10 => ?_)
          refine sa ?_
          refine oStW rfl rfl rfl rfl (by repeat constructor) ty_31 ?_
          refine oNil ?_
          refine aSeq ?_
          refine aSeq ?_
          refine aReg ?_
          refine sp pMa ?_
          refine oNil ?_
          refine aBlock ?_
          refine loopF (α := Nat × List (Int × BS) × List (Int × BS) × DW) (kept := [(1, _), (5, _), (7, _), (9, _), (10, _)]) (fun (j, S2, W2, v) => j ≤ more.length ∧ Rel 5 S2 W2 v) (fun (j, S2, W2, v) => [(11, .int j)]) (fun (j, S2, W2, v) => (.box b10 (dwC v) :: .box b7 (dwC w) :: [.box db [.int 5, .v (.map (some bs)), .v (.map (some bw)), .int v.armed, .v (.bool v.dead)], .map bs (kvA S2), .map bw (kvA W2)] ++ [.box cb [.int 5, .v (.map (some cs)), .v (.map (some cw)), .int w.armed, .v (.bool w.dead)], .map cs (kvA S), .map cw (kvA W)])) (fun (j, S2, W2, v) => more.length - j) (0, S, W, w) ?_ ⟨gInt rfl (by first | rfl | omega | simp), rfl, rfl, rfl, rfl, rfl, trivial⟩ (by repeat constructor) ?_
          · skip
            exact ⟨Nat.zero_le _, r⟩
          · rintro ⟨j, S2, W2, v⟩ ⟨hj, r2⟩
            refine aSeq ?_
            refine aSeq ?_
            refine aReg ?_
            refine sp pM ?_
            refine sp pM ?_
            refine sp (by first | exact pLm sl_22 | exact pLs sl_22) ?_
            refine sp pB ?_
            refine oNil ?_
            refine aCondDec rfl (fun c58 => ?_) (fun c58 => ?_)
            · skip
              refine aSkip ?_
              refine aSeq ?_
              refine aBlock ?_
              obtain ⟨b, hbi⟩ : ∃ a, more[j]? = some a := ⟨_, List.getElem?_eq_getElem (by omega)⟩
              refine aDrawS (h1 := [.box b10 _]) law03_DiskClones_r16_t law03_DiskClones_r16_b [10] 11 #[false, false, false, false, false, false, false, false, false, false, false] (by kernel_rfl) rfl rfl (.cons (by repeat constructor) .nil) (fun HT => ?_)
              refine ep HT 0 rfl pM ?_
              refine er HT 1 rfl (by first | exact rBWa ty_31 | exact rBW ty_31 | exact rBA ty_31) ?_
              refine ep HT 2 rfl pM ?_
              refine ep HT 3 rfl pM ?_
              refine ep HT 4 rfl (pIdxS rfl rfl rfl es_22 (by omega) (map_get1 (f := dactC) hbi)) ?_
              refine er HT 5 rfl (by first | exact rSW ty_38 rfl | exact rSA ty_38) ?_
              refine eOneS (i := 6) #[true, true, true, true, true, true, true, false, false, false, false] rfl (HT.one (by kernel_rfl)) (by decide) ?_
              · skip
                refine stA (hx := [.box db [.int 5, .v (.map (some bs)), .v (.map (some bw)), .int v.armed, .v (.bool v.dead)], .map bs (kvA S2), .map bw (kvA W2)]) (wantN rfl) (fun t ht => by cases ht <;> decide) (.cons (by repeat constructor) (.cons (by repeat constructor) (.cons (by repeat constructor) .nil))) (by repeat constructor) ?_
                refine aCall rfl rfl (by decide) rfl rfl tk_refl (law03_Do db bs bw 5 S2 W2 v v r2 r2.fit b (light_at hok2 hbi) (hb b (List.mem_of_getElem? hbi))) ?_
                rintro _ _ ⟨rfl, S', W', r', rfl⟩
                refine undel (d := 68) rfl ?_
                dsimp only [List.cons_append, List.nil_append]
                refine ef HT 7 rfl pM ?_
                refine ef HT 8 rfl pX ?_
                refine ef HT 9 rfl pX ?_
                refine eLast ?_
                refine f1 HT 10 rfl ?_
                refine oStW rfl rfl rfl rfl (by repeat constructor) ty_31 ?_
                refine fE HT ?_
                clear HT
                refine aReg ?_
                refine sp pM ?_
                refine sp pAd ?_
                refine sp pMa ?_
                refine oNil ?_
                refine ⟨(j + 1, S', W', (v.act1 b).1), ?_, by (try dsimp only); omega, ⟨gInt rfl (by first | rfl | omega | simp), rfl, rfl, rfl, rfl, rfl, trivial⟩, _, (by repeat constructor)⟩
                exact ⟨by omega, r'⟩
            · skip
              refine aExit rfl ?_
              refine aSeq ?_
              refine aSeq ?_
              refine aReg ?_
              refine sp pMa ?_
              refine oNil ?_
              refine aBlock ?_
              refine loopF (α := Nat) (kept := [(5, _), (7, _), (9, _), (10, _)]) (fun k => k ≤ 2) (fun k => [(12, .int k)]) (fun k => (.box b10 (dwC v) :: .box b7 (dwC w) :: [.box db [.int 5, .v (.map (some bs)), .v (.map (some bw)), .int v.armed, .v (.bool v.dead)], .map bs (kvA S2), .map bw (kvA W2)] ++ [.box cb [.int 5, .v (.map (some cs)), .v (.map (some cw)), .int w.armed, .v (.bool w.dead)], .map cs (kvA S), .map cw (kvA W)])) (fun k => 2 - k) 0 ?_ ⟨gInt rfl (by first | rfl | omega | simp), rfl, rfl, rfl, rfl, trivial⟩ (by repeat constructor) ?_
              · skip
                omega
              · rintro k hk
                refine aSeq ?_
                refine aSeq ?_
                refine aReg ?_
                refine sp pM ?_
                refine sp pB ?_
                refine oNil ?_
                refine aCondDec rfl (fun c72 => ?_) (fun c72 => ?_)
                · skip
                  refine aSkip ?_
                  refine aSeq ?_
                  refine aBlock ?_
                  refine aSeq ?_
                  refine aReg ?_
                  refine sp pMa ?_
                  refine oNil ?_
                  refine aSeq ?_
                  refine aSeq ?_
                  refine aReg ?_
                  refine sp pM ?_
                  refine sp pB ?_
                  refine oNil ?_
                  refine aCondEq rfl (fun c76 => ?_) (fun c76 => ?_)
                  · skip
                    refine aReg ?_
                    refine sp (pBuild rfl st_42 ze_42 rfl rfl rfl rfl) ?_
                    refine sq ?_
                    refine qBox rfl rfl (by decide) rfl rfl (fun b78 => ?_)
                    refine sp pMa ?_
                    refine oNil ?_
                    refine aSeq ?_
                    refine aReg ?_
                    refine sp pM ?_
                    refine sa ?_
                    first | refine cai rfl rfl rfl (disk_Arm_n 1) ?_ | refine cai rfl rfl rfl (disk_Arm_e b78 0) ?_
                    refine oNil ?_
                    refine aSeq ?_
                    refine aReg ?_
                    refine sp pM ?_
                    refine sa ?_
                    first | refine cai rfl rfl rfl (disk_Crash_n) ?_ | refine cai rfl rfl rfl (disk_Crash_e b78 1) ?_
                    refine oNil ?_
                    refine aSeq ?_
                    refine aReg ?_
                    refine sp pM ?_
                    refine sa ?_
                    first | refine cai rfl rfl rfl (disk_Read_n 0) ?_ | refine cai rfl rfl rfl (disk_Read_e b78 1 0) ?_
                    refine sp pM ?_
                    refine sp pX ?_
                    refine sp pX ?_
                    refine sp pMa ?_
                    refine sp pMa ?_
                    refine oNil ?_
                    refine aSeq ?_
                    refine aReg ?_
                    refine sp pM ?_
                    refine sa ?_
                    first | refine cai rfl rfl rfl (disk_Dead_n) ?_ | refine cai rfl rfl rfl (disk_Dead_e b78 1) ?_
                    refine sp pNo ?_
                    refine sp pM ?_
                    refine gp pM ?_
                    refine gp pB ?_
                    refine sp pK ?_
                    refine sp pM ?_
                    refine gp pM ?_
                    refine ga ?_
                    refine ca rfl rfl rfl ((law03_Fill [] (by decide)).casts (.cons cast_nil .nil)) ?_
                    rintro _ _ ⟨gf, cf, rfl, rfl⟩
                    refine ga ?_
                    first | refine cai rfl rfl rfl (disk_Write_n 0 _) ?_ | refine cai rfl rfl rfl (disk_Write_e b78 1 0 _) ?_
                    refine gp pB ?_
                    refine sp pK ?_
                    refine sp pM ?_
                    refine gp pM ?_
                    refine ga ?_
                    first | refine cai rfl rfl rfl (disk_Flush_n) ?_ | refine cai rfl rfl rfl (disk_Flush_e b78 1) ?_
                    refine gp pB ?_
                    refine sp pK ?_
                    refine sp pM ?_
                    refine gp pM ?_
                    refine ga ?_
                    first | refine cai rfl rfl rfl (disk_Size_n) ?_ | refine cai rfl rfl rfl (disk_Size_e b78 1) ?_
                    refine gp pB ?_
                    refine sp pK ?_
                    refine sp pM ?_
                    refine gp pM ?_
                    refine ga ?_
                    first | refine cai rfl rfl rfl disk_Waits_n ?_ | refine co rfl rfl rfl (disk_Waits_e b78 1) (fun gw kw => ?_)
                    refine gp (by first | exact pLm sl_51 | exact pLs sl_51 | exact pLv sl_51) ?_
                    refine gp pB ?_
                    refine sp pK ?_
                    refine sp pM ?_
                    refine gp pM ?_
                    refine ga ?_
                    first | refine cai rfl rfl rfl disk_Clone_n ?_ | (refine ca rfl rfl rfl (disk_Clone_e b78 1) ?_; rintro _ _ ⟨cz, rfl, rfl⟩)
                    refine ga ?_
                    first | refine cai rfl rfl rfl (disk_Dead_n) ?_ | refine cai rfl rfl rfl (disk_Dead_e _ 1) ?_
                    refine gp pNo ?_
                    refine sp pK ?_
                    refine oNil ?_
                    refine aCondF rfl ?_
                    refine aSkip ?_
                    refine aReg ?_
                    refine sp pM ?_
                    refine sp pAd ?_
                    refine sp pMa ?_
                    refine oNil ?_
                    refine ⟨k + 1, ?_, by (try dsimp only); omega, ⟨gInt rfl (by first | rfl | omega | simp), rfl, rfl, rfl, rfl, trivial⟩, _, (by repeat constructor)⟩
                    omega
                  · skip
                    refine aSkip ?_
                    refine aSeq ?_
                    refine aReg ?_
                    refine sp pM ?_
                    refine sa ?_
                    first | refine cai rfl rfl rfl (disk_Arm_n 1) ?_ | refine cai rfl rfl rfl (disk_Arm_e b78 0) ?_
                    refine oNil ?_
                    refine aSeq ?_
                    refine aReg ?_
                    refine sp pM ?_
                    refine sa ?_
                    first | refine cai rfl rfl rfl (disk_Crash_n) ?_ | refine cai rfl rfl rfl (disk_Crash_e b78 1) ?_
                    refine oNil ?_
                    refine aSeq ?_
                    refine aReg ?_
                    refine sp pM ?_
                    refine sa ?_
                    first | refine cai rfl rfl rfl (disk_Read_n 0) ?_ | refine cai rfl rfl rfl (disk_Read_e b78 1 0) ?_
                    refine sp pM ?_
                    refine sp pX ?_
                    refine sp pX ?_
                    refine sp pMa ?_
                    refine sp pMa ?_
                    refine oNil ?_
                    refine aSeq ?_
                    refine aReg ?_
                    refine sp pM ?_
                    refine sa ?_
                    first | refine cai rfl rfl rfl (disk_Dead_n) ?_ | refine cai rfl rfl rfl (disk_Dead_e b78 1) ?_
                    refine sp pNo ?_
                    refine sp pM ?_
                    refine gp pM ?_
                    refine gp pB ?_
                    refine sp pK ?_
                    refine sp pM ?_
                    refine gp pM ?_
                    refine ga ?_
                    refine ca rfl rfl rfl ((law03_Fill [] (by decide)).casts (.cons cast_nil .nil)) ?_
                    rintro _ _ ⟨gf, cf, rfl, rfl⟩
                    refine ga ?_
                    first | refine cai rfl rfl rfl (disk_Write_n 0 _) ?_ | refine cai rfl rfl rfl (disk_Write_e b78 1 0 _) ?_
                    refine gp pB ?_
                    refine sp pK ?_
                    refine sp pM ?_
                    refine gp pM ?_
                    refine ga ?_
                    first | refine cai rfl rfl rfl (disk_Flush_n) ?_ | refine cai rfl rfl rfl (disk_Flush_e b78 1) ?_
                    refine gp pB ?_
                    refine sp pK ?_
                    refine sp pM ?_
                    refine gp pM ?_
                    refine ga ?_
                    first | refine cai rfl rfl rfl (disk_Size_n) ?_ | refine cai rfl rfl rfl (disk_Size_e b78 1) ?_
                    refine gp pB ?_
                    refine sp pK ?_
                    refine sp pM ?_
                    refine gp pM ?_
                    refine ga ?_
                    first | refine cai rfl rfl rfl disk_Waits_n ?_ | refine co rfl rfl rfl (disk_Waits_e b78 1) (fun gw kw => ?_)
                    refine gp (by first | exact pLm sl_51 | exact pLs sl_51 | exact pLv sl_51) ?_
                    refine gp pB ?_
                    refine sp pK ?_
                    refine sp pM ?_
                    refine gp pM ?_
                    refine ga ?_
                    first | refine cai rfl rfl rfl disk_Clone_n ?_ | (refine ca rfl rfl rfl (disk_Clone_e b78 1) ?_; rintro _ _ ⟨cz, rfl, rfl⟩)
                    refine ga ?_
                    first | refine cai rfl rfl rfl (disk_Dead_n) ?_ | refine cai rfl rfl rfl (disk_Dead_e _ 1) ?_
                    refine gp pNo ?_
                    refine sp pK ?_
                    refine oNil ?_
                    refine aCondF rfl ?_
                    refine aSkip ?_
                    refine aReg ?_
                    refine sp pM ?_
                    refine sp pAd ?_
                    refine sp pMa ?_
                    refine oNil ?_
                    refine ⟨k + 1, ?_, by (try dsimp only); omega, ⟨gInt rfl (by first | rfl | omega | simp), rfl, rfl, rfl, rfl, trivial⟩, _, (by repeat constructor)⟩
                    omega
                · skip
                  refine aExit rfl ?_
                  refine aSeq ?_
                  refine aReg ?_
                  refine sp pM ?_
                  refine sr (by first | exact rBWa ty_31 | exact rBW ty_31 | exact rBA ty_31) ?_
                  refine sa ?_
                  refine ca rfl rfl rfl (law03_Like cb cs cw 5 S W w r) ?_
                  rintro _ _ ⟨rfl, rfl⟩
                  refine sp pM ?_
                  refine gp pM ?_
                  refine gr (by first | exact rBWa ty_31 | exact rBW ty_31 | exact rBA ty_31) ?_
                  refine ga ?_
                  refine ca rfl rfl rfl (law03_Like db bs bw 5 S2 W2 v r2) ?_
                  rintro _ _ ⟨rfl, rfl⟩
                  refine sp pK ?_
                  refine sp pM ?_
                  refine ga ?_
                  refine (qCallV rfl rfl (by decide) rfl rfl (lents_refl _) law03_awake ?_).op
                  refine sp pK ?_
                  refine sp pMa ?_
                  refine oNil ?_
                  refine aRet ?_
                  exact ⟨_, [], _, rfl, .nil, rfl, rfl⟩
end A
end Go.Proofs.Ytnabkchagjjjnaa
set_option linter.unusedVariables false
set_option linter.unusedSimpArgs false
namespace Go.Proofs.Ytnabkchagjjjnaa
namespace A
theorem i64_hi {n : Int} (h : (Lit.int .i64 n).wf = true) : n ≤ 9223372036854775807 := by
  simp only [Lit.wf, Bool.and_eq_true, decide_eq_true_eq] at h
  have e2 : IntKind.i64.max = 9223372036854775807 := rfl
  omega
theorem op_by : OpC Try.prog 5 1 Nat by1 (fun n => n < 256) :=
  opMapP (opInt Try.underlying5) (fun x => x.toNat) (fun x hx => by simp [by1, Int.toNat_of_nonneg (u8_range hx).1]) (fun x hx => by have := u8_range hx; show x.toNat < 256; omega)
theorem op_DTear : OpC Try.prog 68 2 DTear tearC (fun _ => True) :=
  opMapP (opStruct Try.underlying68 (by kernel_rfl) (fsCons rfl (by kernel_rfl) (opInt Try.underlying3) (fsCons rfl (by kernel_rfl) (opSlice Try.underlying35 (by kernel_rfl) (by decide) op_by) fsNil))) (fun x => ⟨x.1, x.2.1⟩) (fun x hx => rfl) (fun _ _ => trivial)
theorem op_DAct : OpC Try.prog 38 5 DAct dactC (fun a => a.n ≤ 9223372036854775807) :=
  opMapP (opStruct Try.underlying38 (by kernel_rfl) (fsCons rfl (by kernel_rfl) (opInt Try.underlying3) (fsCons rfl (by kernel_rfl) (opInt Try.underlying3) (fsCons rfl (by kernel_rfl) (opSlice Try.underlying35 (by kernel_rfl) (by decide) op_by) (fsCons rfl (by kernel_rfl) (opBool Try.underlying4) (fsCons rfl (by kernel_rfl) (opSlice Try.underlying36 (by kernel_rfl) (by decide) op_DTear) fsNil)))))) (fun x => ⟨x.1, x.2.1, x.2.2.1, x.2.2.2.1, x.2.2.2.2.1⟩) (fun x hx => rfl) (fun x hx => i64_hi hx.2.1)
end A
end Go.Proofs.Ytnabkchagjjjnaa
namespace Go.Proofs.Ytnabkchagjjjnaa.diskClones
open Go.ChangeShapes Go.WideShapes Go.ChangeAt Go.RowKit Go.Proofs.Ytnabkchagjjjnaa.A
open Go.ChangeMaps (open_string shut_string)
set_option linter.unusedVariables false
theorem own : ownKnob Try.prog.godebug = none := by kernel_rfl
theorem laidOut : laidOutB Try.prog = true := A.laidAll
theorem fInPlace : (Rows.diskClonesRow.inPlace == Try.prog.inPlace 3) = true := by kernel_rfl
theorem fUnfollowed : (Rows.diskClonesRow.unfollowed == Try.prog.unfollowed 3) = true := by kernel_rfl
theorem fRecurses : (Rows.diskClonesRow.recurses == Try.prog.recurses 3) = true := by kernel_rfl
theorem fNamed : (Rows.diskClonesRow.named == Try.prog.varsNamed 3) = true := by kernel_rfl
theorem closed : joinedFacts Try.prog 3 Try.f3 Rows.diskClonesSpec Rows.diskClonesRow = true := by
  unfold joinedFacts
  simp only [Bool.and_eq_true]
  refine ⟨⟨⟨⟨⟨⟨⟨⟨⟨⟨⟨⟨⟨⟨⟨⟨⟨⟨⟨⟨⟨⟨⟨⟨⟨⟨⟨⟨⟨⟨⟨?_, A.laidAll⟩, A.mapsAll⟩, ?_⟩, ?_⟩, ?_⟩, ?_⟩, ?_⟩, ?_⟩, fInPlace⟩, fUnfollowed⟩, fRecurses⟩, fNamed⟩, ?_⟩, ?_⟩, ?_⟩, ?_⟩, ?_⟩, ?_⟩, ?_⟩, ?_⟩, ?_⟩, ?_⟩, ?_⟩, A.stopsAll⟩, A.mayE⟩, by rw [A.lifF]; kernel_rfl⟩, by rw [A.mkC]; kernel_rfl⟩, ?_⟩, ?_⟩, ?_⟩, ?_⟩
  all_goals kernel_rfl
set_option maxRecDepth 100000 in
theorem lifted (os : Os) (started : os.Started) (H : Type) (enc : TypeId × Value → H) :
    ReturnsInHanded {} Try.checked os 3 .any (Rows.diskClonesSpec.pre6 enc Try.prog Try.f3 Rows.diskClonesRow.domain false) (Rows.diskClonesSpec.post enc Try.prog Try.f3 false true false false) := by
  refine returnsInHanded_of_change_sized (C := Try.checked) own started (by kernel_rfl) Try.func3
    (ChangeSpec.witness6 (enc := enc) (C := Try.checked) false ⟨#[], #[.slice none 0 0, .slice none 0 0], []⟩ 8 (by kernel_rfl) (by kernel_rfl) (by kernel_rfl) (by kernel_rfl)) ?_
  intro W base args ds gs before hval0 hW hcnd hsz0 _
  have hval : ∀ (j : Nat) t v, Try.f3.params[j]? = some t → args[j]? = some v → Value.okWide Try.prog W .any base t v := hval0
  have hW' := hW
  obtain ⟨p, q, hA0, hV, rfl, hfz, hnd⟩ := hW
  have hA : DataW.TrodAll enc Try.prog W 0 (fun _ => true) true Try.f3.params.toList args.toList ds p := hA0
  rw [Try.params3] at hA hval
  obtain ⟨v0, vs0, d0, ds0, p0, q0, hargs, rfl, rfl, h0, r0⟩ := trodAll_cons hA
  obtain ⟨v1, vs1, d1, ds1, p1, q1, rfl, rfl, rfl, h1, r1⟩ := trodAll_cons r0
  obtain ⟨rfl, rfl, rfl⟩ := trodAll_nil r1
  obtain rfl : args = #[v0, v1] := by cases args; simp_all
  obtain ⟨rfl, rfl⟩ := trodVars_none hV
  have k0 := h0
  have lt0 : ∀ x ∈ p0, x.block < W.heap.size := by obtain ⟨m, hm⟩ := k0; exact DataW.trod_lt m _ _ _ hm
  have one0 : v0.oneCell' = true := by obtain ⟨_, _, _, rfl⟩ := okWide_slice Try.underlying22 (hval 0 22 v0 rfl rfl); rfl
  obtain ⟨a0, w0, rep0⟩ := argOne (opSlice Try.underlying22 (by kernel_rfl) (by decide) op_DAct) one0 h0
  have k1 := h1
  have lt1 : ∀ x ∈ p1, x.block < W.heap.size := by obtain ⟨m, hm⟩ := k1; exact DataW.trod_lt m _ _ _ hm
  have one1 : v1.oneCell' = true := by obtain ⟨_, _, _, rfl⟩ := okWide_slice Try.underlying22 (hval 1 22 v1 rfl rfl); rfl
  obtain ⟨a1, w1, rep1⟩ := argOne (opSlice Try.underlying22 (by kernel_rfl) (by decide) op_DAct) one1 h1
  refine (law_calls (law03_DiskClones a0 a1 w0.2 w1.2 w0.1 w1.1) (reps_cons rep0 (reps_cons rep1 reps_nil))).mono fun e W' ⟨he, bel⟩ => ?_
  subst he
  exact ⟨_, rfl, _, _, _, [], _, [], hW', trodAll_mk1 (shut_bool Try.underlying4 _), (trodAll_cons_mk (Below.trod laidOut (by kernel_rfl) (of_decide_eq_true (by kernel_rfl)) k0 bel lt0) (trodAll_cons_mk (Below.trod laidOut (by kernel_rfl) (of_decide_eq_true (by kernel_rfl)) k1 bel lt1) trodAll_mk0)), rfl, bel.frame _, fun h => by cases h⟩
theorem over : Rows.diskClonesRow.holds Try.pinned (OpenSpec.ofChange Rows.diskClonesSpec) :=
  OpenClaim.holds_of_wide 3 Try.f3 rfl rfl rfl rfl rfl rfl rfl ⟨rfl, rfl, rfl, rfl, rfl⟩ rfl rfl rfl rfl rfl (by kernel_rfl) Try.func3 closed
    (of_decide_eq_true (by kernel_rfl)) (by unfold Func.isWrapper; first | (rw [if_pos (by decide +kernel)]; kernel_rfl) | (rw [if_neg (by decide +kernel)]; exact ⟨rfl, rfl⟩))
    (fun os started H enc _ => lifted os started H enc)
theorem proved : Rows.DiskClonesSaid := over
#print axioms proved
end Go.Proofs.Ytnabkchagjjjnaa.diskClones
