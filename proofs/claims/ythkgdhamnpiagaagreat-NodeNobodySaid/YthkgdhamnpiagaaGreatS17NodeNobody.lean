/- Whatever the input, waymarklaw28.NodeNobody returns true, and each argument reads as it did. -/
import Derived.Laws.LoneSync
import Derived.Test.YthkgdhamnpiagaaGreatS16NodeNobody
set_option linter.unusedVariables false
set_option linter.unusedSimpArgs false
namespace Go.Proofs.YthkgdhamnpiagaaGreat
namespace A
variable {P : Program} {N : Nat} {env : Env} {h : List HA} {K : Cont} {X : List (Nat × Cont)} {Rt : Cont}
/-- What nobody's map has at a number: nothing. -/
theorem pLookNil {o : Oper} {t kt et : TypeId} {x i : Operand} {n : Int} {z : Value} (hm : mapOf P t = some (kt, et)) (hz : zeroOf P et = some z) (ho : o.op = .lookup t x i false := by rfl) (hx : ev env x = some (.v (.map none)) := by rfl) (hi : ev env i = some (.int n) := by rfl) : APure P N o env (.v z) := by
 intro F h a w s
 obtain ⟨h1, h2⟩ := mapOf_spec hm
 have hr := s.ev hx
 have hri := s.ev hi
 generalize hv : a.eval x = v at hr
 generalize hvi : a.eval i = vi at hri
 cases hr
 cases hri
 refine ⟨z, .v z, fun w' => ?_⟩
 simp [execOp, ho, hv, hvi, Instr.lookup, run_underlying' h1, run_checkKey h2, run_findKey h2 (n := n) (es := []) (r := none) rfl, run_zero hz]
/-- sync/atomic.LoadInt64 of a cell that is owned. -/
theorem rLoad64 {o : Oper} {f : FuncId} {fn : Func} {ts : Array TypeId} {x : Operand} {b p : Nat} {n : Int} {cs : List AV} {h' : List HA} (hf : P.funcs[f]? = some fn) (hname : (fn.name == "runtime.NumGoroutine") = false) (hb : fn.body.isNone = true) (hn : Extern.findNext fn = none)
   (he : Extern.find fn = some (Extern.Atomic.loadT (.int .i64))) (hc : cs[p]? = some (.int n)) (ho : o.op = .call ⟨.value (.func f), #[x], ts⟩ := by rfl) (hx : ev env x = some (.v (.pointer (some ⟨b, p, none⟩))) := by rfl) (hs : Spl h (.box b cs) h' := by repeat constructor) : ARead P N o env h (.int n) := by
 intro F a w st
 have hr := st.ev hx
 generalize hv : a.eval x = v at hr
 cases hr
 obtain ⟨arr, ty, h1, h2, h1', h3⟩ := st.r.rep _ (spl_mem hs)
 have hlt : p < cs.length := (List.getElem?_eq_some_iff.1 hc).1
 have hcell : w.cell? ⟨b, p, none⟩ = some (arr.getD p undef) := by simp [World.cell?, h1, h2, hlt]
 have hrep : Rep F w (.int n) (arr.getD p undef) := h3 p (.int n) _ hc (by simp [h2, hlt])
 refine ⟨arr.getD p undef, hrep, fun w' hw => ?_⟩
 have hcell' : w'.cell? ⟨b, p, none⟩ = some (arr.getD p undef) := by rw [cell_agree (.inr (own_box hs)) hw]; exact hcell
 generalize arr.getD p undef = y at hrep hcell' hcell
 cases hrep
 have hl := run_call_load (P := P) hf hname hb hn .i64 he hcell'
 simp only [execOp, ho, resolve, Sem.run_bind, Sem.run_pure, Result.andThen_ok, invoke, builtin]
 simp only [List.map_toArray, List.map_cons, List.map_nil, hv]
 simp [Deferred.ofValue, Act.eval, hl]
end A
end Go.Proofs.YthkgdhamnpiagaaGreat
namespace Go.Proofs.YthkgdhamnpiagaaGreat
namespace A
theorem fd_90_1 : fieldOf Tryz.prog 90 1 = some (1, 1, false) := by kernel_rfl
theorem fd_90_4 : fieldOf Tryz.prog 90 4 = some (4, 2, true) := by kernel_rfl
theorem fd_90_6 : fieldOf Tryz.prog 90 6 = some (7, 1, false) := by kernel_rfl
theorem pt_29 : isPtrT Tryz.prog 29 = true := by kernel_rfl
theorem ty_80 : tyOf Tryz.prog 80 = some (1, false) := by kernel_rfl
/-- A node: its number, neighbours, numbers, the first one of this start, whether it stopped, routes, counts. -/
structure Nd where
 id : Int
 t : List Nr
 own : Spc
 first : Int
 stopped : Bool
 rt : AV
 sent : Int
 heard : Int
def ndC (tb mb ob : Nat) (n : Nd) : List AV := [.int n.id, .v (.pointer (some ⟨tb, 0, none⟩)), .sl 8 (n.t.map nrC), .v (.map (some mb)), .int n.own.next, .int n.own.upto, .int n.first, .v (.bool n.stopped), .v (.pointer (some ⟨ob, 0, none⟩)), n.rt, .int n.sent, .int n.heard]
/-- A node that nobody started. -/
def ndZ : List AV := [.int 0, .v (.pointer none), .v (.slice none 0 0), .v (.map none), .int 0, .int 0, .int 0, .v (.bool false), .v (.pointer none), .v (.slice none 0 0), .int 0, .int 0]
def cntC (a b : Int) : List AV := [.int a, .int b]
/- node.within -/
set_option maxRecDepth 100000 in
set_option maxHeartbeats 400000 in
theorem node_within {n lo hi : Int} : Triple Tryz.prog 32 [.int n, .int lo, .int hi] [] (Is (.v (.bool (inr n lo hi))) []) := by
 refine triple_of Tryz.func32 rfl (by kernel_rfl) rfl (by simp) ?_
 refine aSeq ?_
 refine aReg ?_
 refine sp pMa ?_
 refine oNil ?_
 refine aSeq ?_
 refine aReg ?_
 refine sp pM ?_
 refine sp pM ?_
 refine sp pB ?_
 refine sp pM ?_
 refine oSplitDec 10 rfl (fun c10 => ?_) (fun c10 => ?_)
 ·skip
  refine gp pM ?_
  refine gp pM ?_
  refine gp pB ?_
  refine sp pK ?_
  refine sp pMa ?_
  refine oNil ?_
  refine aRet ?_
  refine finIs rfl ?_
  simp_all [retOf, inr]
  all_goals omega
 ·skip
  refine gf ?_
  refine gf ?_
  refine gf ?_
  refine sp pK ?_
  refine sp pMa ?_
  refine oNil ?_
  refine aRet ?_
  refine finIs rfl ?_
  simp_all [retOf, inr]
  all_goals omega
/- node.Node).is -/
set_option maxRecDepth 100000 in
set_option maxHeartbeats 400000 in
theorem node_is {nb tb mb ob : Nat} {n : Nd} : Triple Tryz.prog 46 [.v (.pointer (some ⟨nb, 0, none⟩))] [.box nb (ndC tb mb ob n)] (Is (.v (.bool (!n.stopped))) [.box nb (ndC tb mb ob n)]) := by
 refine triple_of Tryz.func46 rfl (by kernel_rfl) rfl (by simp) ?_
 refine aSeq ?_
 refine aReg ?_
 refine sp pMa ?_
 refine oNil ?_
 refine aSeq ?_
 refine aReg ?_
 refine sp pM ?_
 refine sp (by first | exact pPtrNil rfl (.inr rfl) rfl pt_29 rfl rfl | exact pSpNil rfl (.inr rfl) rfl pt_29 rfl) ?_
 refine sp pM ?_
 refine gp pM ?_
 refine gp pNv ?_
 refine gp (pFb fd_90_1) ?_
 refine gr (rB1 ty_80) ?_
 refine gp (by first | exact pPtrNil rfl (.inr rfl) rfl pt_80 rfl rfl | exact pSpNil rfl (.inr rfl) rfl pt_80 rfl) ?_
 refine sp pK ?_
 refine sp pM ?_
 refine gp pM ?_
 refine gp pNv ?_
 refine gp (pFb fd_90_6) ?_
 refine gr (rB1 ty_4) ?_
 refine gp pNo ?_
 refine sp pK ?_
 refine sp pMa ?_
 refine oNil ?_
 refine aRet ?_
 refine finIs rfl ?_
 rfl
/- node.Node).is -/
set_option maxRecDepth 100000 in
set_option maxHeartbeats 400000 in
theorem node_isN  : Triple Tryz.prog 46 [.v (.pointer none)] [] (Is (.v (.bool false)) []) := by
 refine triple_of Tryz.func46 rfl (by kernel_rfl) rfl (by simp) ?_
 refine aSeq ?_
 refine aReg ?_
 refine sp pMa ?_
 refine oNil ?_
 refine aSeq ?_
 refine aReg ?_
 refine sp pM ?_
 refine sp (by first | exact pPtrNil rfl (.inr rfl) rfl pt_29 rfl rfl | exact pSpNil rfl (.inr rfl) rfl pt_29 rfl) ?_
 refine sp pM ?_
 refine gf ?_
 refine gf ?_
 refine gf ?_
 refine gf ?_
 refine gf ?_
 refine sp pK ?_
 refine sp pM ?_
 refine gf ?_
 refine gf ?_
 refine gf ?_
 refine gf ?_
 refine gf ?_
 refine sp pK ?_
 refine sp pMa ?_
 refine oNil ?_
 refine aRet ?_
 refine finIs rfl ?_
 rfl
/- node.Node).is -/
set_option maxRecDepth 100000 in
set_option maxHeartbeats 400000 in
theorem node_isZ {nb : Nat} : Triple Tryz.prog 46 [.v (.pointer (some ⟨nb, 0, none⟩))] [.box nb ndZ] (Is (.v (.bool false)) [.box nb ndZ]) := by
 refine triple_of Tryz.func46 rfl (by kernel_rfl) rfl (by simp) ?_
 refine aSeq ?_
 refine aReg ?_
 refine sp pMa ?_
 refine oNil ?_
 refine aSeq ?_
 refine aReg ?_
 refine sp pM ?_
 refine sp (by first | exact pPtrNil rfl (.inr rfl) rfl pt_29 rfl rfl | exact pSpNil rfl (.inr rfl) rfl pt_29 rfl) ?_
 refine sp pM ?_
 refine gp pM ?_
 refine gp pNv ?_
 refine gp (pFb fd_90_1) ?_
 refine gr (rB1 ty_80) ?_
 refine gp (by first | exact pPtrNil rfl (.inr rfl) rfl pt_80 rfl rfl | exact pSpNil rfl (.inr rfl) rfl pt_80 rfl) ?_
 refine sp pK ?_
 refine sp pM ?_
 refine gf ?_
 refine gf ?_
 refine gf ?_
 refine gf ?_
 refine gf ?_
 refine sp pK ?_
 refine sp pMa ?_
 refine oNil ?_
 refine aRet ?_
 refine finIs rfl ?_
 rfl
/- node.Node).Stopped -/
set_option maxRecDepth 100000 in
set_option maxHeartbeats 400000 in
theorem node_StoppedN  : Triple Tryz.prog 20 [.v (.pointer none)] [] (Is (.v (.bool true)) []) := by
 refine triple_of Tryz.func20 rfl (by kernel_rfl) rfl (by simp) ?_
 refine aSeq ?_
 refine aReg ?_
 refine sp pMa ?_
 refine oNil ?_
 refine aSeq ?_
 refine aReg ?_
 refine sp pM ?_
 refine sq ?_
 refine cv rfl rfl rfl (lents_refl _) node_isN ?_
 refine sp pNo ?_
 refine sp pMa ?_
 refine oNil ?_
 refine aRet ?_
 refine finIs rfl ?_
 rfl
/- node.Node).Stopped -/
set_option maxRecDepth 100000 in
set_option maxHeartbeats 400000 in
theorem node_StoppedZ {nb : Nat} : Triple Tryz.prog 20 [.v (.pointer (some ⟨nb, 0, none⟩))] [.box nb ndZ] (Is (.v (.bool true)) [.box nb ndZ]) := by
 refine triple_of Tryz.func20 rfl (by kernel_rfl) rfl (by simp) ?_
 refine aSeq ?_
 refine aReg ?_
 refine sp pMa ?_
 refine oNil ?_
 refine aSeq ?_
 refine aReg ?_
 refine sp pM ?_
 refine sa ?_
 refine cai rfl rfl rfl (node_isZ (nb := nb)) ?_
 refine sp pNo ?_
 refine sp pMa ?_
 refine oNil ?_
 refine aRet ?_
 refine finIs rfl ?_
 rfl
/- store.Store).State -/
set_option maxRecDepth 100000 in
set_option maxHeartbeats 400000 in
theorem store_StateN  : Triple Tryz.prog 34 [.v (.pointer none)] [] (Is (.agg (stC st0)) []) := by
 refine triple_ofR Tryz.func34 rfl (by kernel_rfl) rfl (by simp) ?_
 refine aSeq ?_
 refine aReg ?_
 refine sq ?_
 refine qAlloc rfl rfl (by decide) ze_35 rfl (fun b2 => ?_)
 refine oNil ?_
 refine aSeq ?_
 refine aSeq ?_
 refine aReg ?_
 refine sp pM ?_
 refine sp (by first | exact pPtrNil rfl (.inl rfl) rfl pt_80 rfl rfl | exact pSpNil rfl (.inl rfl) rfl pt_80 rfl) ?_
 refine oNil ?_
 refine aCondT rfl ?_
 refine aSeq ?_
 refine aReg ?_
 refine sp (pBuild rfl st_35 ze_35 rfl rfl rfl rfl) ?_
 refine sa ?_
 refine oStW rfl rfl rfl rfl (by repeat constructor) ty_35 ?_
 refine oNil ?_
 refine aRet ?_
 refine finRIs (l := [.agg (stC st0)]) (.cons (.cast (a := .agg [.v (.slice none 0 0), .int 0, .int 0, .v (.slice none 0 0)]) (.cellA rfl (by repeat (first | exact List.mem_cons_self | apply List.mem_cons_of_mem)) ty_35) cast_st0) .nil) rfl
/- node.Node).State -/
set_option maxRecDepth 100000 in
set_option maxHeartbeats 400000 in
theorem node_StateN  : Triple Tryz.prog 11 [.v (.pointer none)] [] (Is (.agg (stC st0)) []) := by
 refine triple_ofR Tryz.func11 rfl (by kernel_rfl) rfl (by simp) ?_
 refine aSeq ?_
 refine aReg ?_
 refine sq ?_
 refine qAlloc rfl rfl (by decide) ze_35 rfl (fun b2 => ?_)
 refine oNil ?_
 refine aSeq ?_
 refine aSeq ?_
 refine aReg ?_
 refine sp pM ?_
 refine sp (by first | exact pPtrNil rfl (.inl rfl) rfl pt_29 rfl rfl | exact pSpNil rfl (.inl rfl) rfl pt_29 rfl) ?_
 refine oNil ?_
 refine aCondT rfl ?_
 refine aSeq ?_
 refine aReg ?_
 refine sp (pBuild rfl st_35 ze_35 rfl rfl rfl rfl) ?_
 refine sa ?_
 refine oStW rfl rfl rfl rfl (by repeat constructor) ty_35 ?_
 refine oNil ?_
 refine aRet ?_
 refine finRIs (l := [.agg (stC st0)]) (.cons (.cast (a := .agg [.v (.slice none 0 0), .int 0, .int 0, .v (.slice none 0 0)]) (.cellA rfl (by repeat (first | exact List.mem_cons_self | apply List.mem_cons_of_mem)) ty_35) cast_st0) .nil) rfl
/- node.Node).State -/
set_option maxRecDepth 100000 in
set_option maxHeartbeats 400000 in
theorem node_StateZ {nb : Nat} : Triple Tryz.prog 11 [.v (.pointer (some ⟨nb, 0, none⟩))] [.box nb ndZ] (Is (.agg (stC st0)) [.box nb ndZ]) := by
 refine triple_ofR Tryz.func11 rfl (by kernel_rfl) rfl (by simp) ?_
 refine aSeq ?_
 refine aReg ?_
 refine sq ?_
 refine qAlloc rfl rfl (by decide) ze_35 rfl (fun b2 => ?_)
 refine oNil ?_
 refine aSeq ?_
 refine aSeq ?_
 refine aReg ?_
 refine sp pM ?_
 refine sp (by first | exact pPtrNil rfl (.inl rfl) rfl pt_29 rfl rfl | exact pSpNil rfl (.inl rfl) rfl pt_29 rfl) ?_
 refine oNil ?_
 refine aCondF rfl ?_
 refine aSkip ?_
 refine aSeq ?_
 refine aReg ?_
 refine sp pM ?_
 refine sp pNv ?_
 refine sp (pFb fd_90_1) ?_
 refine sr (rB1 ty_80) ?_
 refine sq ?_
 refine ci rfl rfl rfl store_StateN ?_
 refine sa ?_
 refine oStW rfl rfl rfl rfl (by repeat constructor) ty_35 ?_
 refine oNil ?_
 refine aRet ?_
 refine finRIs (l := [.agg (stC st0)]) (.cons (.cellA (cs := stC st0) rfl (by repeat (first | exact List.mem_cons_self | apply List.mem_cons_of_mem)) ty_35) .nil) rfl
/- node.Node).Space -/
set_option maxRecDepth 100000 in
set_option maxHeartbeats 400000 in
theorem node_SpaceN  : Triple Tryz.prog 27 [.v (.pointer none)] [] (Is (.agg (spC sp0)) []) := by
 refine triple_ofR Tryz.func27 rfl (by kernel_rfl) rfl (by simp) ?_
 refine aSeq ?_
 refine aReg ?_
 refine sq ?_
 refine qAlloc rfl rfl (by decide) ze_40 rfl (fun b2 => ?_)
 refine oNil ?_
 refine aSeq ?_
 refine aSeq ?_
 refine aReg ?_
 refine sp pM ?_
 refine sp (by first | exact pPtrNil rfl (.inl rfl) rfl pt_29 rfl rfl | exact pSpNil rfl (.inl rfl) rfl pt_29 rfl) ?_
 refine oNil ?_
 refine aCondT rfl ?_
 refine aSeq ?_
 refine aReg ?_
 refine sp (pBuild rfl st_40 ze_40 rfl rfl rfl rfl) ?_
 refine sa ?_
 refine oStW rfl rfl rfl rfl (by repeat constructor) ty_40 ?_
 refine oNil ?_
 refine aRet ?_
 refine finRIs (l := [.agg (spC sp0)]) (.cons (.cellA (cs := spC sp0) rfl (by repeat (first | exact List.mem_cons_self | apply List.mem_cons_of_mem)) ty_40) .nil) rfl
/- node.Node).Space -/
set_option maxRecDepth 100000 in
set_option maxHeartbeats 400000 in
theorem node_SpaceZ {nb : Nat} : Triple Tryz.prog 27 [.v (.pointer (some ⟨nb, 0, none⟩))] [.box nb ndZ] (Is (.agg (spC sp0)) [.box nb ndZ]) := by
 refine triple_ofR Tryz.func27 rfl (by kernel_rfl) rfl (by simp) ?_
 refine aSeq ?_
 refine aReg ?_
 refine sq ?_
 refine qAlloc rfl rfl (by decide) ze_40 rfl (fun b2 => ?_)
 refine oNil ?_
 refine aSeq ?_
 refine aSeq ?_
 refine aReg ?_
 refine sp pM ?_
 refine sp (by first | exact pPtrNil rfl (.inl rfl) rfl pt_29 rfl rfl | exact pSpNil rfl (.inl rfl) rfl pt_29 rfl) ?_
 refine oNil ?_
 refine aCondF rfl ?_
 refine aSkip ?_
 refine aSeq ?_
 refine aReg ?_
 refine sp pM ?_
 refine sp pNv ?_
 refine sp (pFb fd_90_4) ?_
 refine sr (by first | exact rBWa ty_40 | exact rBW ty_40 | exact rBA ty_40) ?_
 refine sa ?_
 refine oStW rfl rfl rfl rfl (by repeat constructor) ty_40 ?_
 refine oNil ?_
 refine aRet ?_
 refine finRIs (l := [.agg (spC sp0)]) (.cons (.cellA (cs := spC sp0) rfl (by repeat (first | exact List.mem_cons_self | apply List.mem_cons_of_mem)) ty_40) .nil) rfl
/- node.Node).Space -/
set_option maxRecDepth 100000 in
set_option maxHeartbeats 400000 in
theorem node_Space {nb tb mb ob : Nat} {n : Nd} : Triple Tryz.prog 27 [.v (.pointer (some ⟨nb, 0, none⟩))] [.box nb (ndC tb mb ob n)] (Is (.agg (spC n.own)) [.box nb (ndC tb mb ob n)]) := by
 refine triple_ofR Tryz.func27 rfl (by kernel_rfl) rfl (by simp) ?_
 refine aSeq ?_
 refine aReg ?_
 refine sq ?_
 refine qAlloc rfl rfl (by decide) ze_40 rfl (fun b2 => ?_)
 refine oNil ?_
 refine aSeq ?_
 refine aSeq ?_
 refine aReg ?_
 refine sp pM ?_
 refine sp (by first | exact pPtrNil rfl (.inl rfl) rfl pt_29 rfl rfl | exact pSpNil rfl (.inl rfl) rfl pt_29 rfl) ?_
 refine oNil ?_
 refine aCondF rfl ?_
 refine aSkip ?_
 refine aSeq ?_
 refine aReg ?_
 refine sp pM ?_
 refine sp pNv ?_
 refine sp (pFb fd_90_4) ?_
 refine sr (by first | exact rBWa ty_40 | exact rBW ty_40 | exact rBA ty_40) ?_
 refine sa ?_
 refine oStW rfl rfl rfl rfl (by repeat constructor) ty_40 ?_
 refine oNil ?_
 refine aRet ?_
 refine finRIs (l := [.agg (spC n.own)]) (.cons (.cellA (cs := spC n.own) rfl (by repeat (first | exact List.mem_cons_self | apply List.mem_cons_of_mem)) ty_40) .nil) rfl
/- node.Node).Tick -/
set_option maxRecDepth 100000 in
set_option maxHeartbeats 400000 in
theorem node_TickN  : Triple Tryz.prog 22 [.v (.pointer none)] [] (Is (.tup [.v (.slice none 0 0), .int 6]) []) := by
 refine triple_of Tryz.func22 rfl (by kernel_rfl) rfl (by simp) ?_
 refine aSeq ?_
 refine aReg ?_
 refine sp pMa ?_
 refine sp pMa ?_
 refine oNil ?_
 refine aSeq ?_
 refine aSeq ?_
 refine aReg ?_
 refine sp pM ?_
 refine sq ?_
 refine cv rfl rfl rfl (lents_refl _) node_isN ?_
 refine sp pNo ?_
 refine oNil ?_
 refine aCondT rfl ?_
 refine aSeq ?_
 refine aReg ?_
 refine sp pMa ?_
 refine sp pMa ?_
 refine oNil ?_
 refine aRet ?_
 refine finIs rfl ?_
 rfl
/- node.Node).Tick -/
set_option maxRecDepth 100000 in
set_option maxHeartbeats 400000 in
theorem node_TickZ {nb : Nat} : Triple Tryz.prog 22 [.v (.pointer (some ⟨nb, 0, none⟩))] [.box nb ndZ] (Is (.tup [.v (.slice none 0 0), .int 6]) [.box nb ndZ]) := by
 refine triple_of Tryz.func22 rfl (by kernel_rfl) rfl (by simp) ?_
 refine aSeq ?_
 refine aReg ?_
 refine sp pMa ?_
 refine sp pMa ?_
 refine oNil ?_
 refine aSeq ?_
 refine aSeq ?_
 refine aReg ?_
 refine sp pM ?_
 refine sa ?_
 refine cai rfl rfl rfl (node_isZ (nb := nb)) ?_
 refine sp pNo ?_
 refine oNil ?_
 refine aCondT rfl ?_
 refine aSeq ?_
 refine aReg ?_
 refine sp pMa ?_
 refine sp pMa ?_
 refine oNil ?_
 refine aRet ?_
 refine finIs rfl ?_
 rfl
/- node.Node).Hear -/
set_option maxRecDepth 100000 in
set_option maxHeartbeats 400000 in
theorem node_HearN {fr : Int} {b : BS} : Triple Tryz.prog 23 [.v (.pointer none), .int fr, bsA b] [] (Is (.tup [.v (.slice none 0 0), .int 6]) []) := by
 refine triple_of Tryz.func23 rfl (by kernel_rfl) rfl (by simp) ?_
 refine aSeq ?_
 refine aReg ?_
 refine sp pMa ?_
 refine sp pMa ?_
 refine oNil ?_
 refine aSeq ?_
 refine aSeq ?_
 refine aReg ?_
 refine sp pM ?_
 refine sq ?_
 refine cv rfl rfl rfl (lents_refl _) node_isN ?_
 refine sp pNo ?_
 refine oNil ?_
 refine aCondT rfl ?_
 refine aSeq ?_
 refine aReg ?_
 refine sp pMa ?_
 refine sp pMa ?_
 refine oNil ?_
 refine aRet ?_
 refine finIs rfl ?_
 rfl
/- node.Node).Hear -/
set_option maxRecDepth 100000 in
set_option maxHeartbeats 400000 in
theorem node_HearZ {nb : Nat} {fr : Int} {b : BS} : Triple Tryz.prog 23 [.v (.pointer (some ⟨nb, 0, none⟩)), .int fr, bsA b] [.box nb ndZ] (Is (.tup [.v (.slice none 0 0), .int 6]) [.box nb ndZ]) := by
 refine triple_of Tryz.func23 rfl (by kernel_rfl) rfl (by simp) ?_
 refine aSeq ?_
 refine aReg ?_
 refine sp pMa ?_
 refine sp pMa ?_
 refine oNil ?_
 refine aSeq ?_
 refine aSeq ?_
 refine aReg ?_
 refine sp pM ?_
 refine sa ?_
 refine cai rfl rfl rfl (node_isZ (nb := nb)) ?_
 refine sp pNo ?_
 refine oNil ?_
 refine aCondT rfl ?_
 refine aSeq ?_
 refine aReg ?_
 refine sp pMa ?_
 refine sp pMa ?_
 refine oNil ?_
 refine aRet ?_
 refine finIs rfl ?_
 rfl
/- node.Node).Port -/
set_option maxRecDepth 100000 in
set_option maxHeartbeats 400000 in
theorem node_PortN {fr c : Int} : Triple Tryz.prog 24 [.v (.pointer none), .int fr, .int c] [] (Is (.int 6) []) := by
 refine triple_of Tryz.func24 rfl (by kernel_rfl) rfl (by simp) ?_
 refine aSeq ?_
 refine aReg ?_
 refine sp pMa ?_
 refine oNil ?_
 refine aSeq ?_
 refine aBlock ?_
 refine aSeq ?_
 refine aReg ?_
 refine sp pM ?_
 refine sq ?_
 refine cv rfl rfl rfl (lents_refl _) node_isN ?_
 refine sp pNo ?_
 refine sp pMa ?_
 refine oNil ?_
 refine aCondT rfl ?_
 refine aSeq ?_
 refine aReg ?_
 refine sp pMa ?_
 refine oNil ?_
 refine aRet ?_
 refine finIs rfl ?_
 rfl
/- node.Node).Port -/
set_option maxRecDepth 100000 in
set_option maxHeartbeats 400000 in
theorem node_PortZ {nb : Nat} {fr c : Int} : Triple Tryz.prog 24 [.v (.pointer (some ⟨nb, 0, none⟩)), .int fr, .int c] [.box nb ndZ] (Is (.int 6) [.box nb ndZ]) := by
 refine triple_of Tryz.func24 rfl (by kernel_rfl) rfl (by simp) ?_
 refine aSeq ?_
 refine aReg ?_
 refine sp pMa ?_
 refine oNil ?_
 refine aSeq ?_
 refine aBlock ?_
 refine aSeq ?_
 refine aReg ?_
 refine sp pM ?_
 refine sa ?_
 refine cai rfl rfl rfl (node_isZ (nb := nb)) ?_
 refine sp pNo ?_
 refine sp pMa ?_
 refine oNil ?_
 refine aCondT rfl ?_
 refine aSeq ?_
 refine aReg ?_
 refine sp pMa ?_
 refine oNil ?_
 refine aRet ?_
 refine finIs rfl ?_
 rfl
end A
end Go.Proofs.YthkgdhamnpiagaaGreat
namespace Go.Proofs.YthkgdhamnpiagaaGreat
namespace A
theorem el_36 : elemOf Tryz.prog 36 = some (147, 8, 56) := by kernel_rfl
theorem el_37 : elemOf Tryz.prog 37 = some (168, 2, 16) := by kernel_rfl
theorem fd_88_2 : fieldOf Tryz.prog 88 2 = some (0, 1, false) := by kernel_rfl
theorem fd_90_10 : fieldOf Tryz.prog 90 10 = some (11, 1, true) := by kernel_rfl
theorem fd_90_2 : fieldOf Tryz.prog 90 2 = some (2, 1, false) := by kernel_rfl
theorem fd_90_3 : fieldOf Tryz.prog 90 3 = some (3, 1, false) := by kernel_rfl
theorem fd_90_9 : fieldOf Tryz.prog 90 9 = some (10, 1, true) := by kernel_rfl
theorem mo_81 : mapOf Tryz.prog 81 = some (3, 37) := by kernel_rfl
theorem sl_37 : isSl Tryz.prog 37 = true := by kernel_rfl
theorem sl_83 : isSl Tryz.prog 83 = true := by kernel_rfl
theorem st_42 : structPlaces Tryz.prog 42 = some [(0, 1), (1, 1)] := by kernel_rfl
theorem ty_168 : tyOf Tryz.prog 168 = some (2, true) := by kernel_rfl
theorem ty_29 : tyOf Tryz.prog 29 = some (1, false) := by kernel_rfl
theorem ty_36 : tyOf Tryz.prog 36 = some (1, false) := by kernel_rfl
theorem ty_42 : tyOf Tryz.prog 42 = some (2, true) := by kernel_rfl
theorem ty_81 : tyOf Tryz.prog 81 = some (1, false) := by kernel_rfl
theorem us_36 : Tryz.prog.underlying 36 = some (.slice 147) := by kernel_rfl
theorem us_37 : Tryz.prog.underlying 37 = some (.slice 168) := by kernel_rfl
theorem ze_168 : zeroOf Tryz.prog 168 = some (.agg #[.int .i64 0, .int .i64 0]) := by kernel_rfl
theorem ze_37 : zeroOf Tryz.prog 37 = some (.slice none 0 0) := by kernel_rfl
theorem ze_42 : zeroOf Tryz.prog 42 = some (.agg #[.int .i64 0, .int .i64 0]) := by kernel_rfl
structure Itm where
 o : Int
 s : Int
 deriving DecidableEq
def itC (x : Itm) : List AV := [.int x.o, .int x.s]
structure Rte where
 d : Int
 c : Int
 v : Int
 deriving DecidableEq
/- api.Near] -/
set_option maxRecDepth 100000 in
set_option maxHeartbeats 400000 in
theorem clone_Nr {l : List Nr} (hl : l.length ≤ 1000000 := by omega) : Triple Tryz.prog 65 [.sl 8 (l.map nrC)] [] (Own 147 8 (l.map nrC) []) := by
 refine triple_of Tryz.func65 rfl (by kernel_rfl) rfl (by simp) ?_
 refine aSeq ?_
 refine aReg ?_
 refine sp pMa ?_
 refine oNil ?_
 refine aSeq ?_
 refine aSeq ?_
 refine aReg ?_
 refine sp pM ?_
 refine sa ?_
 refine oSlNil rfl (.inl rfl) rfl sl_36 rfl (by decide) (fun q4 hq4 => ?_)
 refine oNil ?_
 refine aCond rfl (fun c4 => ?_) (fun c4 => ?_)
 ·skip
  refine aSeq ?_
  refine aWeak (weak_nil 147 8) ?_
  refine aReg ?_
  refine sp pMa ?_
  refine oNil ?_
  refine aRet ?_
  have he : l = [] := by
    cases l with
    | nil => rfl
    | cons x l => have := hq4 (by simp); simp_all
  subst he
  exact ⟨_, _, _, rfl, .cons .hd .nil, none, 0, rfl, rfl⟩
 ·skip
  refine aSkip ?_
  refine aSeq ?_
  refine aReg ?_
  refine sq ?_
  refine qLit (l := []) rfl rfl (by decide) us_36 ty_147 ze_147 rfl (by decide) (by decide) rfl rfl rfl (fun b5 => ?_)
  refine sp pM ?_
  refine sa ?_
  first | refine oAppT (out := []) _ rfl rfl (by repeat constructor) (.inl rfl) el_36 sl_36 (fun g7 k7 => ?_) | refine oAppT (out := []) _ rfl rfl (by repeat constructor) (srcOwn rfl (by repeat constructor) (by first | rfl | simp)) el_36 sl_36 (fun g7 k7 => ?_)
  refine sp pMa ?_
  refine oNil ?_
  refine aRet ?_
  refine finOwn rfl ?_
  rfl
/- api.Item] -/
set_option maxRecDepth 100000 in
set_option maxHeartbeats 400000 in
theorem clone_Itm {l : List Itm} (hl : l.length ≤ 1000000 := by omega) : Triple Tryz.prog 66 [.sl 2 (l.map itC)] [] (Own 168 2 (l.map itC) []) := by
 refine triple_of Tryz.func66 rfl (by kernel_rfl) rfl (by simp) ?_
 refine aSeq ?_
 refine aReg ?_
 refine sp pMa ?_
 refine oNil ?_
 refine aSeq ?_
 refine aSeq ?_
 refine aReg ?_
 refine sp pM ?_
 refine sa ?_
 refine oSlNil rfl (.inl rfl) rfl sl_37 rfl (by decide) (fun q4 hq4 => ?_)
 refine oNil ?_
 refine aCond rfl (fun c4 => ?_) (fun c4 => ?_)
 ·skip
  refine aSeq ?_
  refine aWeak (weak_nil 168 2) ?_
  refine aReg ?_
  refine sp pMa ?_
  refine oNil ?_
  refine aRet ?_
  have he : l = [] := by
    cases l with
    | nil => rfl
    | cons x l => have := hq4 (by simp); simp_all
  subst he
  exact ⟨_, _, _, rfl, .cons .hd .nil, none, 0, rfl, rfl⟩
 ·skip
  refine aSkip ?_
  refine aSeq ?_
  refine aReg ?_
  refine sq ?_
  refine qLit (l := []) rfl rfl (by decide) us_37 ty_168 ze_168 rfl (by decide) (by decide) rfl rfl rfl (fun b5 => ?_)
  refine sp pM ?_
  refine sa ?_
  first | refine oAppT (out := []) _ rfl rfl (by repeat constructor) (.inl rfl) el_37 sl_37 (fun g7 k7 => ?_) | refine oAppT (out := []) _ rfl rfl (by repeat constructor) (srcOwn rfl (by repeat constructor) (by first | rfl | simp)) el_37 sl_37 (fun g7 k7 => ?_)
  refine sp pMa ?_
  refine oNil ?_
  refine aRet ?_
  refine finOwn rfl ?_
  rfl
/- node.Node).Table -/
set_option maxRecDepth 100000 in
set_option maxHeartbeats 400000 in
theorem node_TableN  : Triple Tryz.prog 28 [.v (.pointer none)] [] (Is (.v (.slice none 0 0)) []) := by
 refine triple_of Tryz.func28 rfl (by kernel_rfl) rfl (by simp) ?_
 refine aSeq ?_
 refine aReg ?_
 refine sp pMa ?_
 refine oNil ?_
 refine aSeq ?_
 refine aSeq ?_
 refine aReg ?_
 refine sp pM ?_
 refine sp (by first | exact pPtrNil rfl (.inl rfl) rfl pt_29 rfl rfl | exact pSpNil rfl (.inl rfl) rfl pt_29 rfl) ?_
 refine oNil ?_
 refine aCondT rfl ?_
 refine aSeq ?_
 refine aReg ?_
 refine sp pMa ?_
 refine oNil ?_
 refine aRet ?_
 refine finIs rfl ?_
 rfl
/- node.Node).Owes -/
set_option maxRecDepth 100000 in
set_option maxHeartbeats 400000 in
theorem node_OwesN {k : Int} : Triple Tryz.prog 29 [.v (.pointer none), .int k] [] (Is (.v (.slice none 0 0)) []) := by
 refine triple_of Tryz.func29 rfl (by kernel_rfl) rfl (by simp) ?_
 refine aSeq ?_
 refine aReg ?_
 refine sp pMa ?_
 refine oNil ?_
 refine aSeq ?_
 refine aSeq ?_
 refine aReg ?_
 refine sp pM ?_
 refine sp (by first | exact pPtrNil rfl (.inl rfl) rfl pt_29 rfl rfl | exact pSpNil rfl (.inl rfl) rfl pt_29 rfl) ?_
 refine oNil ?_
 refine aCondT rfl ?_
 refine aSeq ?_
 refine aReg ?_
 refine sp pMa ?_
 refine oNil ?_
 refine aRet ?_
 refine finIs rfl ?_
 rfl
/- node.Node).Routes -/
set_option maxRecDepth 100000 in
set_option maxHeartbeats 400000 in
theorem node_RoutesN  : Triple Tryz.prog 30 [.v (.pointer none)] [] (Is (.v (.slice none 0 0)) []) := by
 refine triple_of Tryz.func30 rfl (by kernel_rfl) rfl (by simp) ?_
 refine aSeq ?_
 refine aReg ?_
 refine sq ?_
 refine qBox rfl rfl (by decide) rfl rfl (fun b1 => ?_)
 refine sp pMa ?_
 refine oNil ?_
 refine aSeq ?_
 refine aSeq ?_
 refine aReg ?_
 refine sr (rB1 ty_29) ?_
 refine sp (by first | exact pPtrNil rfl (.inl rfl) rfl pt_29 rfl rfl | exact pSpNil rfl (.inl rfl) rfl pt_29 rfl) ?_
 refine sp pM ?_
 refine gf ?_
 refine gf ?_
 refine gf ?_
 refine gf ?_
 refine gf ?_
 refine sp pK ?_
 refine oNil ?_
 refine aCondT rfl ?_
 refine aSeq ?_
 refine aReg ?_
 refine sp pMa ?_
 refine oNil ?_
 refine aRet ?_
 refine finIs rfl ?_
 rfl
/- node.Node).Count -/
set_option maxRecDepth 100000 in
set_option maxHeartbeats 400000 in
theorem node_CountN  : Triple Tryz.prog 31 [.v (.pointer none)] [] (Is (.agg (cntC 0 0)) []) := by
 refine triple_ofR Tryz.func31 rfl (by kernel_rfl) rfl (by simp) ?_
 refine aSeq ?_
 refine aReg ?_
 refine sq ?_
 refine qAlloc rfl rfl (by decide) ze_42 rfl (fun b2 => ?_)
 refine oNil ?_
 refine aSeq ?_
 refine aSeq ?_
 refine aReg ?_
 refine sp pM ?_
 refine sp (by first | exact pPtrNil rfl (.inl rfl) rfl pt_29 rfl rfl | exact pSpNil rfl (.inl rfl) rfl pt_29 rfl) ?_
 refine oNil ?_
 refine aCondT rfl ?_
 refine aSeq ?_
 refine aReg ?_
 refine sp (pBuild rfl st_42 ze_42 rfl rfl rfl rfl) ?_
 refine sa ?_
 refine oStW rfl rfl rfl rfl (by repeat constructor) ty_42 ?_
 refine oNil ?_
 refine aRet ?_
 refine finRIs (l := [.agg (cntC 0 0)]) (.cons (.cellA (cs := cntC 0 0) rfl (by repeat (first | exact List.mem_cons_self | apply List.mem_cons_of_mem)) ty_42) .nil) rfl
/- node.Node).Table -/
set_option maxRecDepth 100000 in
set_option maxHeartbeats 400000 in
theorem node_TableZO {nb : Nat} : Triple Tryz.prog 28 [.v (.pointer (some ⟨nb, 0, none⟩))] [.box nb ndZ] (Own 147 8 (([] : List Nr).map nrC) [.box nb ndZ]) := by
 refine triple_of Tryz.func28 rfl (by kernel_rfl) rfl (by simp) ?_
 refine aSeq ?_
 refine aReg ?_
 refine sp pMa ?_
 refine oNil ?_
 refine aSeq ?_
 refine aSeq ?_
 refine aReg ?_
 refine sp pM ?_
 refine sp (by first | exact pPtrNil rfl (.inl rfl) rfl pt_29 rfl rfl | exact pSpNil rfl (.inl rfl) rfl pt_29 rfl) ?_
 refine oNil ?_
 refine aCondF rfl ?_
 refine aSkip ?_
 refine aSeq ?_
 refine aReg ?_
 refine sp pM ?_
 refine sp pNv ?_
 refine sp (pFb fd_90_2) ?_
 refine sr (rB1 ty_36) ?_
 refine oWeak (weak_cast (k := 8) (b := .sl 8 (([] : List Nr).map nrC)) rfl cast_nil) ?_
 refine sa ?_
 first | refine coM rfl rfl rfl (clone_Nr (l := []) (by simp)) (fun g9 k9 => ?_) | refine co rfl rfl rfl (clone_Nr (l := []) (by simp)) (fun g9 k9 => ?_)
 refine sp pMa ?_
 refine oNil ?_
 refine aRet ?_
 refine finOwn rfl ?_
 rfl
/- node.Node).Owes -/
set_option maxRecDepth 100000 in
set_option maxHeartbeats 400000 in
theorem node_OwesZO {nb : Nat} {k : Int} : Triple Tryz.prog 29 [.v (.pointer (some ⟨nb, 0, none⟩)), .int k] [.box nb ndZ] (Own 168 2 (([] : List Itm).map itC) [.box nb ndZ]) := by
 refine triple_of Tryz.func29 rfl (by kernel_rfl) rfl (by simp) ?_
 refine aSeq ?_
 refine aReg ?_
 refine sp pMa ?_
 refine oNil ?_
 refine aSeq ?_
 refine aSeq ?_
 refine aReg ?_
 refine sp pM ?_
 refine sp (by first | exact pPtrNil rfl (.inl rfl) rfl pt_29 rfl rfl | exact pSpNil rfl (.inl rfl) rfl pt_29 rfl) ?_
 refine oNil ?_
 refine aCondF rfl ?_
 refine aSkip ?_
 refine aSeq ?_
 refine aReg ?_
 refine sp pM ?_
 refine sp pNv ?_
 refine sp (pFb fd_90_3) ?_
 refine sr (rB1 ty_81) ?_
 refine sp pM ?_
 refine sp (pLookNil mo_81 ze_37) ?_
 refine oWeak (weak_cast (k := 12) (b := .sl 2 (([] : List Itm).map itC)) rfl cast_nil) ?_
 refine sa ?_
 first | refine coM rfl rfl rfl (clone_Itm (l := []) (by simp)) (fun g13 k13 => ?_) | refine co rfl rfl rfl (clone_Itm (l := []) (by simp)) (fun g13 k13 => ?_)
 refine sp pMa ?_
 refine oNil ?_
 refine aRet ?_
 refine finOwn rfl ?_
 rfl
/- node.Node).Routes -/
set_option maxRecDepth 100000 in
set_option maxHeartbeats 400000 in
theorem node_RoutesZ {nb : Nat} : Triple Tryz.prog 30 [.v (.pointer (some ⟨nb, 0, none⟩))] [.box nb ndZ] (Is (.v (.slice none 0 0)) [.box nb ndZ]) := by
 refine triple_of Tryz.func30 rfl (by kernel_rfl) rfl (by simp) ?_
 refine aSeq ?_
 refine aReg ?_
 refine sq ?_
 refine qBox rfl rfl (by decide) rfl rfl (fun b1 => ?_)
 refine sp pMa ?_
 refine oNil ?_
 refine aSeq ?_
 refine aSeq ?_
 refine aReg ?_
 refine sr (rB1 ty_29) ?_
 refine sp (by first | exact pPtrNil rfl (.inl rfl) rfl pt_29 rfl rfl | exact pSpNil rfl (.inl rfl) rfl pt_29 rfl) ?_
 refine sp pM ?_
 refine gr (rB1 ty_29) ?_
 refine gp (by first | exact pNv | exact pNs) ?_
 refine gp (by first | exact pFb fd_90_1 | exact pFs fd_90_1) ?_
 refine gr (by first | exact rS1 ty_80 | exact rB1 ty_80 | exact rAr ty_80 | exact rArL ty_80 | exact rArR2 ty_80) ?_
 refine gp (by first | exact pPtrNil rfl (.inl rfl) rfl pt_80 rfl rfl | exact pSpNil rfl (.inl rfl) rfl pt_80 rfl) ?_
 refine sp pK ?_
 refine oNil ?_
 refine aCondT rfl ?_
 refine aSeq ?_
 refine aReg ?_
 refine sp pMa ?_
 refine oNil ?_
 refine aRet ?_
 refine finIs rfl ?_
 rfl
/- atomic.Int64).Load -/
set_option maxRecDepth 100000 in
set_option maxHeartbeats 400000 in
theorem i64_Load {b p : Nat} {cs : List AV} {n : Int} (hc : cs[p]? = some (.int n)) : Triple Tryz.prog 71 [.v (.pointer (some ⟨b, p, none⟩))] [.box b cs] (Is (.int n) [.box b cs]) := by
 refine triple_of Tryz.func71 rfl (by kernel_rfl) rfl (by simp) ?_
 refine aSeq ?_
 refine aReg ?_
 refine sp pMa ?_
 refine oNil ?_
 refine aSeq ?_
 refine aReg ?_
 refine sp pM ?_
 refine sp pNv ?_
 refine sp (pFb fd_88_2) ?_
 refine sr (rLoad64 Tryz.func151 (by kernel_rfl) (by kernel_rfl) (by kernel_rfl) (by kernel_rfl) hc) ?_
 refine sp pMa ?_
 refine oNil ?_
 refine aRet ?_
 refine finIs rfl ?_
 rfl
/- node.Node).Count -/
def node_CountZ_r3_T : Bool × List (List Nat × List Nat) := (true, [([], []), ([0], [0]), ([1], [1]), ([2], [2]), ([], []), ([4], [4]), ([5], [5]), ([6, 3], [6]), ([3, 7], [3, 7]), ([8, 7, 0, 1, 2, 3, 4, 5, 6, 7, 8], [8])])
def node_CountZ_r3_B : List Nat := [0, 1, 3, 7, 0, 16, 48, 127, 255, 511]
theorem node_CountZ_r3_t : Go.Proofs.YthkgdhamnpiagaaGreatW.PrintLast.rtab .any (Go.Proofs.YthkgdhamnpiagaaGreatW.PrintLast.opsOf Tryz.f31 3) = node_CountZ_r3_T := by kernel_rfl
theorem node_CountZ_r3_b : Go.Proofs.YthkgdhamnpiagaaGreatW.PrintLast.waitsOk node_CountZ_r3_T.2 node_CountZ_r3_B = true := by kernel_rfl
set_option maxRecDepth 100000 in
set_option maxHeartbeats 400000 in
theorem node_CountZ {nb : Nat} : Triple Tryz.prog 31 [.v (.pointer (some ⟨nb, 0, none⟩))] [.box nb ndZ] (Is (.agg (cntC 0 0)) [.box nb ndZ]) := by
 refine triple_ofR Tryz.func31 rfl (by kernel_rfl) rfl (by simp) ?_
 refine aSeq ?_
 refine aReg ?_
 refine sq ?_
 refine qAlloc rfl rfl (by decide) ze_42 rfl (fun b2 => ?_)
 refine oNil ?_
 refine aSeq ?_
 refine aSeq ?_
 refine aReg ?_
 refine sp pM ?_
 refine sp (by first | exact pPtrNil rfl (.inl rfl) rfl pt_29 rfl rfl | exact pSpNil rfl (.inl rfl) rfl pt_29 rfl) ?_
 refine oNil ?_
 refine aCondF rfl ?_
 refine aSkip ?_
 refine aSeq ?_
 refine aDrawS (h1 := [.box b2 _]) node_CountZ_r3_t node_CountZ_r3_b [9] 10 #[false, false, false, false, false, false, false, false, false, false] (by kernel_rfl) rfl rfl (.cons (by repeat constructor) .nil) (fun HT => ?_)
 refine ep HT 0 rfl pM ?_
 refine ep HT 1 rfl pNv ?_
 refine ep HT 2 rfl (pFb fd_90_9) ?_
 refine ep HT 4 rfl pM ?_
 refine ep HT 5 rfl pNv ?_
 refine ep HT 6 rfl (pFb fd_90_10) ?_
 refine eOneS (i := 3) #[true, true, true, true, true, true, true, false, false, false] rfl (HT.one (by kernel_rfl)) (by decide) ?_
 ·skip
  refine stA (hx := [.box nb ndZ]) (wantN rfl) (fun t ht => by cases ht <;> decide) (.cons (by repeat constructor) .nil) (by repeat constructor) ?_
  refine cai rfl rfl rfl (i64_Load (b := nb) (p := 10) (cs := ndZ) (n := 0) rfl) ?_
  refine undel (d := 9) rfl ?_
  try dsimp only [List.cons_append, List.nil_append]
  refine eOneS (i := 7) #[true, true, true, true, true, true, true, true, false, false] rfl (HT.one (by kernel_rfl)) (by decide) ?_
  ·skip
   refine stA (hx := [.box nb ndZ]) (wantN rfl) (fun t ht => by cases ht <;> decide) (.cons (by repeat constructor) .nil) (by repeat constructor) ?_
   refine cai rfl rfl rfl (i64_Load (b := nb) (p := 11) (cs := ndZ) (n := 0) rfl) ?_
   refine undel (d := 13) rfl ?_
   try dsimp only [List.cons_append, List.nil_append]
   refine ef HT 8 rfl (pBuild rfl st_42 ze_42 rfl rfl rfl rfl) ?_
   refine eLast ?_
   refine f1 HT 9 rfl ?_
   refine oStW rfl rfl rfl rfl (by repeat constructor) ty_42 ?_
   refine fE HT ?_
   clear HT
   refine aRet ?_
   refine finRIs (l := [.agg (cntC 0 0)]) (.cons (.cellA (cs := cntC 0 0) rfl (by repeat (first | exact List.mem_cons_self | apply List.mem_cons_of_mem)) ty_42) .nil) rfl
/- node.Node).State -/
set_option maxRecDepth 100000 in
set_option maxHeartbeats 400000 in
theorem node_State {nb tb wb mb ob : Nat} {n : Nd} {s : St} (hl : s.db.length ≤ 1000) (hel : s.eps.length ≤ 1000) (hk : ∀ x ∈ s.db, x.ls.length ≤ 1000) : Triple Tryz.prog 11 [.v (.pointer (some ⟨nb, 0, none⟩))] [.box nb (ndC tb mb ob n), .box tb (.v (.pointer (some ⟨wb, 0, none⟩)) :: stC s)] (Is (.agg (stC s)) [.box nb (ndC tb mb ob n), .box tb (.v (.pointer (some ⟨wb, 0, none⟩)) :: stC s)]) := by
 refine triple_ofR Tryz.func11 rfl (by kernel_rfl) rfl (by simp) ?_
 refine aSeq ?_
 refine aReg ?_
 refine sq ?_
 refine qAlloc rfl rfl (by decide) ze_35 rfl (fun b2 => ?_)
 refine oNil ?_
 refine aSeq ?_
 refine aSeq ?_
 refine aReg ?_
 refine sp pM ?_
 refine sp (by first | exact pPtrNil rfl (.inl rfl) rfl pt_29 rfl rfl | exact pSpNil rfl (.inl rfl) rfl pt_29 rfl) ?_
 refine oNil ?_
 refine aCondF rfl ?_
 refine aSkip ?_
 refine aSeq ?_
 refine aReg ?_
 refine sp pM ?_
 refine sp pNv ?_
 refine sp (pFb fd_90_1) ?_
 refine sr (rB1 ty_80) ?_
 refine sa ?_
 refine cai rfl rfl rfl (store_State (tb := tb) (wb := wb) (s := s) hl hel hk) ?_
 refine sa ?_
 refine oStW rfl rfl rfl rfl (by repeat constructor) ty_35 ?_
 refine oNil ?_
 refine aRet ?_
 refine finRIs (l := [.agg (stC s)]) (.cons (.cellA (cs := stC s) rfl (by repeat (first | exact List.mem_cons_self | apply List.mem_cons_of_mem)) ty_35) .nil) rfl
theorem node_TableZ {nb : Nat} : Triple Tryz.prog 28 [.v (.pointer (some ⟨nb, 0, none⟩))] [.box nb ndZ] (Is (.sl 8 []) [.box nb ndZ]) := (node_TableZO (nb := nb)).settle
theorem node_OwesZ {nb : Nat} {k : Int} : Triple Tryz.prog 29 [.v (.pointer (some ⟨nb, 0, none⟩)), .int k] [.box nb ndZ] (Is (.sl 2 []) [.box nb ndZ]) := (node_OwesZO (nb := nb) (k := k)).settle
end A
end Go.Proofs.YthkgdhamnpiagaaGreat
namespace Go.Proofs.YthkgdhamnpiagaaGreat
namespace A
theorem fd_90_7 : fieldOf Tryz.prog 90 7 = some (8, 1, false) := by kernel_rfl
theorem st_117 : structPlaces Tryz.prog 117 = some [(0, 0), (0, 1), (1, 2)] := by kernel_rfl
theorem ty_82 : tyOf Tryz.prog 82 = some (1, false) := by kernel_rfl
theorem ze_117 : zeroOf Tryz.prog 117 = some (.agg #[.int .u32 0, .int .i32 0, .int .u32 0]) := by kernel_rfl
/-- A once of its own that did nothing yet. -/
def onC : List AV := [.v (.int .u32 0), .v (.int .i32 0), .v (.int .u32 0)]
/-- A node that has changes kept: whether it stops. -/
def Nd.kept (n : Nd) (e : Int) : Nd := { n with stopped := n.stopped || decide (e = 7) }
/-- A node tells of itself, if it must. -/
def tellN (V : WS) (s : St) (D : DW) (n : Nd) : WS × St × DW × Nd × Int :=
 if mustB s.db n.id n.t n.first = false then (V, s, D, n, 0) else
 if (planL s.db n.id n.t n.own).2.2 ≠ 0 then (V, s, D, n, (planL s.db n.id n.t n.own).2.2) else
 if (V.doS s D (planL s.db n.id n.t n.own).1).2.2.2 ≠ 0 then
   ((V.doS s D (planL s.db n.id n.t n.own).1).1, (V.doS s D (planL s.db n.id n.t n.own).1).2.1, (V.doS s D (planL s.db n.id n.t n.own).1).2.2.1, n.kept (V.doS s D (planL s.db n.id n.t n.own).1).2.2.2, (V.doS s D (planL s.db n.id n.t n.own).1).2.2.2)
 else ((V.doS s D (planL s.db n.id n.t n.own).1).1, (V.doS s D (planL s.db n.id n.t n.own).1).2.1, (V.doS s D (planL s.db n.id n.t n.own).1).2.2.1, { n.kept 0 with own := (planL s.db n.id n.t n.own).2.1 }, 0)
/- node.Node).keep -/
set_option maxRecDepth 100000 in
set_option maxHeartbeats 4000000 in
theorem node_keep {nb tb wb mb ob db bs bw m : Nat} {oc : List AV} {n : Nd} {V : WS} {s : St} {l : List Chg} {S W : List (Int × BS)} {D : DW} (r : Rel m S W D) (o : WOk V m) (hl : s.db.length ≤ 1000) (hel : s.eps.length ≤ 1000) (hll : l.length ≤ 800) : Triple Tryz.prog 124 [.v (.pointer (some ⟨nb, 0, none⟩)), .sl 6 (l.map chgC)] (.box nb (ndC tb mb ob n) :: .box ob oc :: .box tb (.v (.pointer (some ⟨wb, 0, none⟩)) :: stC s) :: .box wb (wsC db V) :: [.box db [.int m, .v (.map (some bs)), .v (.map (some bw)), .int D.armed, .v (.bool D.dead)], .map bs (kvA S), .map bw (kvA W)]) (fun q h' => q = .int (V.doS s D l).2.2.2 ∧ ∃ S' W' ob' oc', Rel m S' W' (V.doS s D l).2.2.1 ∧ h' = (.box nb (ndC tb mb ob' (n.kept (V.doS s D l).2.2.2)) :: .box ob' oc' :: .box tb (.v (.pointer (some ⟨wb, 0, none⟩)) :: stC (V.doS s D l).2.1) :: .box wb (wsC db (V.doS s D l).1) :: [.box db [.int m, .v (.map (some bs)), .v (.map (some bw)), .int (V.doS s D l).2.2.1.armed, .v (.bool (V.doS s D l).2.2.1.dead)], .map bs (kvA S'), .map bw (kvA W')])) := by
 refine triple_of Tryz.func124 rfl (by kernel_rfl) rfl (by simp) ?_
 refine aSeq ?_
 refine aReg ?_
 refine sp pMa ?_
 refine oNil ?_
 refine aSeq ?_
 refine aReg ?_
 refine sp pM ?_
 refine sp pNv ?_
 refine sp (pFb fd_90_1) ?_
 refine sr (rB1 ty_80) ?_
 refine sp pM ?_
 refine sa ?_
 refine ca rfl rfl rfl (store_Do (tb := tb) (wb := wb) (db := db) (V := V) (s := s) (l := l) r o hl hel hll) ?_
 rintro _ _ ⟨rfl, S2, W2, r2, rfl⟩
 refine sp pMa ?_
 refine oNil ?_
 refine aSeq ?_
 refine aSeq ?_
 refine aReg ?_
 refine sp pM ?_
 refine sp pB ?_
 refine oNil ?_
 refine aCondEq rfl (fun c13 => ?_) (fun c13 => ?_)
 ·skip
  refine aReg ?_
  refine sp pM ?_
  refine sp (pBuild rfl st_117 ze_117 rfl rfl rfl rfl) ?_
  refine sq ?_
  refine qBox rfl rfl (by decide) rfl rfl (fun b16 => ?_)
  refine sp pNv ?_
  refine sp (pFb fd_90_7) ?_
  refine sa ?_
  refine oStB rfl rfl rfl rfl (by repeat constructor) ty_82 rfl (Nat.le_of_ble_eq_true rfl) rfl ?_
  refine oNil ?_
  refine aSeq ?_
  refine aReg ?_
  refine sp pM ?_
  refine sp pM ?_
  refine sp pNv ?_
  refine sp (pFb fd_90_6) ?_
  refine sr (rB1 ty_4) ?_
  refine sp pM ?_
  refine oSplit 24 rfl (fun c24 => ?_) (fun c24 => ?_)
  ·skip
   refine gf ?_
   refine gf ?_
   refine sp pK ?_
   refine sp pNv ?_
   refine sp (pFb fd_90_6) ?_
   refine sa ?_
   refine oStB rfl rfl rfl rfl (by repeat constructor) ty_4 rfl (Nat.le_of_ble_eq_true rfl) rfl ?_
   refine oNil ?_
   refine aSeq ?_
   refine aReg ?_
   refine sp pM ?_
   refine sp pMa ?_
   refine oNil ?_
   first
     | (have hk : n.kept (V.doS s D l).2.2.2 = { n with stopped := true } := by unfold Nd.kept; simp_all; try rfl
        refine aWeak (weak_box (b := nb) (cs' := ndC tb mb b16 (n.kept (V.doS s D l).2.2.2)) (by repeat constructor) (by rw [hk]; rfl)) ?_
        refine aRet ?_
        exact ⟨_, [_, _, _, _, _, _, _], _, rfl, (.cons (by repeat constructor) (.cons (by repeat constructor) (.cons (by repeat constructor) (.cons (by repeat constructor) (.cons (by repeat constructor) (.cons (by repeat constructor) (.cons (by repeat constructor) .nil))))))), rfl, S2, W2, b16, _, r2, rfl⟩)
     | (have hk : n.kept (V.doS s D l).2.2.2 = { n with stopped := ((V.doS s D l).2.2.2 == 7) } := by unfold Nd.kept; simp_all; try rfl
        refine aWeak (weak_box (b := nb) (cs' := ndC tb mb b16 (n.kept (V.doS s D l).2.2.2)) (by repeat constructor) (by rw [hk]; rfl)) ?_
        refine aRet ?_
        exact ⟨_, [_, _, _, _, _, _, _], _, rfl, (.cons (by repeat constructor) (.cons (by repeat constructor) (.cons (by repeat constructor) (.cons (by repeat constructor) (.cons (by repeat constructor) (.cons (by repeat constructor) (.cons (by repeat constructor) .nil))))))), rfl, S2, W2, b16, _, r2, rfl⟩)
     | (have hk : n.kept (V.doS s D l).2.2.2 = { n with stopped := true } := by unfold Nd.kept; simp_all; try rfl
        refine aWeak (weak_box (b := nb) (cs' := ndC tb mb ob (n.kept (V.doS s D l).2.2.2)) (by repeat constructor) (by rw [hk]; rfl)) ?_
        refine aRet ?_
        exact ⟨_, [_, _, _, _, _, _, _], _, rfl, (.cons (by repeat constructor) (.cons (by repeat constructor) (.cons (by repeat constructor) (.cons (by repeat constructor) (.cons (by repeat constructor) (.cons (by repeat constructor) (.cons (by repeat constructor) .nil))))))), rfl, S2, W2, ob, _, r2, rfl⟩)
     | (have hk : n.kept (V.doS s D l).2.2.2 = { n with stopped := ((V.doS s D l).2.2.2 == 7) } := by unfold Nd.kept; simp_all; try rfl
        refine aWeak (weak_box (b := nb) (cs' := ndC tb mb ob (n.kept (V.doS s D l).2.2.2)) (by repeat constructor) (by rw [hk]; rfl)) ?_
        refine aRet ?_
        exact ⟨_, [_, _, _, _, _, _, _], _, rfl, (.cons (by repeat constructor) (.cons (by repeat constructor) (.cons (by repeat constructor) (.cons (by repeat constructor) (.cons (by repeat constructor) (.cons (by repeat constructor) (.cons (by repeat constructor) .nil))))))), rfl, S2, W2, ob, _, r2, rfl⟩)
  ·skip
   refine gp pM ?_
   refine gp pB ?_
   refine sp pK ?_
   refine sp pNv ?_
   refine sp (pFb fd_90_6) ?_
   refine sa ?_
   refine oStB rfl rfl rfl rfl (by repeat constructor) ty_4 rfl (Nat.le_of_ble_eq_true rfl) rfl ?_
   refine oNil ?_
   refine aSeq ?_
   refine aReg ?_
   refine sp pM ?_
   refine sp pMa ?_
   refine oNil ?_
   first
     | (have hk : n.kept (V.doS s D l).2.2.2 = { n with stopped := true } := by unfold Nd.kept; simp_all; try rfl
        refine aWeak (weak_box (b := nb) (cs' := ndC tb mb b16 (n.kept (V.doS s D l).2.2.2)) (by repeat constructor) (by rw [hk]; rfl)) ?_
        refine aRet ?_
        exact ⟨_, [_, _, _, _, _, _, _], _, rfl, (.cons (by repeat constructor) (.cons (by repeat constructor) (.cons (by repeat constructor) (.cons (by repeat constructor) (.cons (by repeat constructor) (.cons (by repeat constructor) (.cons (by repeat constructor) .nil))))))), rfl, S2, W2, b16, _, r2, rfl⟩)
     | (have hk : n.kept (V.doS s D l).2.2.2 = { n with stopped := ((V.doS s D l).2.2.2 == 7) } := by unfold Nd.kept; simp_all; try rfl
        refine aWeak (weak_box (b := nb) (cs' := ndC tb mb b16 (n.kept (V.doS s D l).2.2.2)) (by repeat constructor) (by rw [hk]; rfl)) ?_
        refine aRet ?_
        exact ⟨_, [_, _, _, _, _, _, _], _, rfl, (.cons (by repeat constructor) (.cons (by repeat constructor) (.cons (by repeat constructor) (.cons (by repeat constructor) (.cons (by repeat constructor) (.cons (by repeat constructor) (.cons (by repeat constructor) .nil))))))), rfl, S2, W2, b16, _, r2, rfl⟩)
     | (have hk : n.kept (V.doS s D l).2.2.2 = { n with stopped := true } := by unfold Nd.kept; simp_all; try rfl
        refine aWeak (weak_box (b := nb) (cs' := ndC tb mb ob (n.kept (V.doS s D l).2.2.2)) (by repeat constructor) (by rw [hk]; rfl)) ?_
        refine aRet ?_
        exact ⟨_, [_, _, _, _, _, _, _], _, rfl, (.cons (by repeat constructor) (.cons (by repeat constructor) (.cons (by repeat constructor) (.cons (by repeat constructor) (.cons (by repeat constructor) (.cons (by repeat constructor) (.cons (by repeat constructor) .nil))))))), rfl, S2, W2, ob, _, r2, rfl⟩)
     | (have hk : n.kept (V.doS s D l).2.2.2 = { n with stopped := ((V.doS s D l).2.2.2 == 7) } := by unfold Nd.kept; simp_all; try rfl
        refine aWeak (weak_box (b := nb) (cs' := ndC tb mb ob (n.kept (V.doS s D l).2.2.2)) (by repeat constructor) (by rw [hk]; rfl)) ?_
        refine aRet ?_
        exact ⟨_, [_, _, _, _, _, _, _], _, rfl, (.cons (by repeat constructor) (.cons (by repeat constructor) (.cons (by repeat constructor) (.cons (by repeat constructor) (.cons (by repeat constructor) (.cons (by repeat constructor) (.cons (by repeat constructor) .nil))))))), rfl, S2, W2, ob, _, r2, rfl⟩)
 ·skip
  refine aSkip ?_
  refine aSeq ?_
  refine aReg ?_
  refine sp pM ?_
  refine sp pM ?_
  refine sp pNv ?_
  refine sp (pFb fd_90_6) ?_
  refine sr (rB1 ty_4) ?_
  refine sp pM ?_
  refine oSplit 24 rfl (fun c24 => ?_) (fun c24 => ?_)
  ·skip
   refine gf ?_
   refine gf ?_
   refine sp pK ?_
   refine sp pNv ?_
   refine sp (pFb fd_90_6) ?_
   refine sa ?_
   refine oStB rfl rfl rfl rfl (by repeat constructor) ty_4 rfl (Nat.le_of_ble_eq_true rfl) rfl ?_
   refine oNil ?_
   refine aSeq ?_
   refine aReg ?_
   refine sp pM ?_
   refine sp pMa ?_
   refine oNil ?_
   first
     | (have hk : n.kept (V.doS s D l).2.2.2 = { n with stopped := true } := by unfold Nd.kept; simp_all; try rfl
        refine aWeak (weak_box (b := nb) (cs' := ndC tb mb b16 (n.kept (V.doS s D l).2.2.2)) (by repeat constructor) (by rw [hk]; rfl)) ?_
        refine aRet ?_
        exact ⟨_, [_, _, _, _, _, _, _], _, rfl, (.cons (by repeat constructor) (.cons (by repeat constructor) (.cons (by repeat constructor) (.cons (by repeat constructor) (.cons (by repeat constructor) (.cons (by repeat constructor) (.cons (by repeat constructor) .nil))))))), rfl, S2, W2, b16, _, r2, rfl⟩)
     | (have hk : n.kept (V.doS s D l).2.2.2 = { n with stopped := ((V.doS s D l).2.2.2 == 7) } := by unfold Nd.kept; simp_all; try rfl
        refine aWeak (weak_box (b := nb) (cs' := ndC tb mb b16 (n.kept (V.doS s D l).2.2.2)) (by repeat constructor) (by rw [hk]; rfl)) ?_
        refine aRet ?_
        exact ⟨_, [_, _, _, _, _, _, _], _, rfl, (.cons (by repeat constructor) (.cons (by repeat constructor) (.cons (by repeat constructor) (.cons (by repeat constructor) (.cons (by repeat constructor) (.cons (by repeat constructor) (.cons (by repeat constructor) .nil))))))), rfl, S2, W2, b16, _, r2, rfl⟩)
     | (have hk : n.kept (V.doS s D l).2.2.2 = { n with stopped := true } := by unfold Nd.kept; simp_all; try rfl
        refine aWeak (weak_box (b := nb) (cs' := ndC tb mb ob (n.kept (V.doS s D l).2.2.2)) (by repeat constructor) (by rw [hk]; rfl)) ?_
        refine aRet ?_
        exact ⟨_, [_, _, _, _, _, _, _], _, rfl, (.cons (by repeat constructor) (.cons (by repeat constructor) (.cons (by repeat constructor) (.cons (by repeat constructor) (.cons (by repeat constructor) (.cons (by repeat constructor) (.cons (by repeat constructor) .nil))))))), rfl, S2, W2, ob, _, r2, rfl⟩)
     | (have hk : n.kept (V.doS s D l).2.2.2 = { n with stopped := ((V.doS s D l).2.2.2 == 7) } := by unfold Nd.kept; simp_all; try rfl
        refine aWeak (weak_box (b := nb) (cs' := ndC tb mb ob (n.kept (V.doS s D l).2.2.2)) (by repeat constructor) (by rw [hk]; rfl)) ?_
        refine aRet ?_
        exact ⟨_, [_, _, _, _, _, _, _], _, rfl, (.cons (by repeat constructor) (.cons (by repeat constructor) (.cons (by repeat constructor) (.cons (by repeat constructor) (.cons (by repeat constructor) (.cons (by repeat constructor) (.cons (by repeat constructor) .nil))))))), rfl, S2, W2, ob, _, r2, rfl⟩)
  ·skip
   refine gp pM ?_
   refine gp pB ?_
   refine sp pK ?_
   refine sp pNv ?_
   refine sp (pFb fd_90_6) ?_
   refine sa ?_
   refine oStB rfl rfl rfl rfl (by repeat constructor) ty_4 rfl (Nat.le_of_ble_eq_true rfl) rfl ?_
   refine oNil ?_
   refine aSeq ?_
   refine aReg ?_
   refine sp pM ?_
   refine sp pMa ?_
   refine oNil ?_
   first
     | (have hk : n.kept (V.doS s D l).2.2.2 = { n with stopped := true } := by unfold Nd.kept; simp_all; try rfl
        refine aWeak (weak_box (b := nb) (cs' := ndC tb mb b16 (n.kept (V.doS s D l).2.2.2)) (by repeat constructor) (by rw [hk]; rfl)) ?_
        refine aRet ?_
        exact ⟨_, [_, _, _, _, _, _, _], _, rfl, (.cons (by repeat constructor) (.cons (by repeat constructor) (.cons (by repeat constructor) (.cons (by repeat constructor) (.cons (by repeat constructor) (.cons (by repeat constructor) (.cons (by repeat constructor) .nil))))))), rfl, S2, W2, b16, _, r2, rfl⟩)
     | (have hk : n.kept (V.doS s D l).2.2.2 = { n with stopped := ((V.doS s D l).2.2.2 == 7) } := by unfold Nd.kept; simp_all; try rfl
        refine aWeak (weak_box (b := nb) (cs' := ndC tb mb b16 (n.kept (V.doS s D l).2.2.2)) (by repeat constructor) (by rw [hk]; rfl)) ?_
        refine aRet ?_
        exact ⟨_, [_, _, _, _, _, _, _], _, rfl, (.cons (by repeat constructor) (.cons (by repeat constructor) (.cons (by repeat constructor) (.cons (by repeat constructor) (.cons (by repeat constructor) (.cons (by repeat constructor) (.cons (by repeat constructor) .nil))))))), rfl, S2, W2, b16, _, r2, rfl⟩)
     | (have hk : n.kept (V.doS s D l).2.2.2 = { n with stopped := true } := by unfold Nd.kept; simp_all; try rfl
        refine aWeak (weak_box (b := nb) (cs' := ndC tb mb ob (n.kept (V.doS s D l).2.2.2)) (by repeat constructor) (by rw [hk]; rfl)) ?_
        refine aRet ?_
        exact ⟨_, [_, _, _, _, _, _, _], _, rfl, (.cons (by repeat constructor) (.cons (by repeat constructor) (.cons (by repeat constructor) (.cons (by repeat constructor) (.cons (by repeat constructor) (.cons (by repeat constructor) (.cons (by repeat constructor) .nil))))))), rfl, S2, W2, ob, _, r2, rfl⟩)
     | (have hk : n.kept (V.doS s D l).2.2.2 = { n with stopped := ((V.doS s D l).2.2.2 == 7) } := by unfold Nd.kept; simp_all; try rfl
        refine aWeak (weak_box (b := nb) (cs' := ndC tb mb ob (n.kept (V.doS s D l).2.2.2)) (by repeat constructor) (by rw [hk]; rfl)) ?_
        refine aRet ?_
        exact ⟨_, [_, _, _, _, _, _, _], _, rfl, (.cons (by repeat constructor) (.cons (by repeat constructor) (.cons (by repeat constructor) (.cons (by repeat constructor) (.cons (by repeat constructor) (.cons (by repeat constructor) (.cons (by repeat constructor) .nil))))))), rfl, S2, W2, ob, _, r2, rfl⟩)
/- node.Node).owe -/
set_option maxRecDepth 100000 in
set_option maxHeartbeats 1000000 in
theorem node_owe0 {nb tb mb ob : Nat} {n : Nd} {x : Itm} {bt : Int} (ht : n.t.length ≤ 1000000) (hf : fullT n.t = []) : Triple Tryz.prog 125 [.v (.pointer (some ⟨nb, 0, none⟩)), .agg (itC x), .int bt] [.box nb (ndC tb mb ob n)] (Is (.tup []) [.box nb (ndC tb mb ob n)]) := by
 refine triple_of Tryz.func125 rfl (by kernel_rfl) rfl (by simp) ?_
 refine aSeq ?_
 refine aReg ?_
 refine sq ?_
 refine qBox rfl rfl (by decide) rfl rfl (fun b4 => ?_)
 refine oNil ?_
 refine aSeq ?_
 refine aReg ?_
 refine sp pM ?_
 refine sp pNv ?_
 refine sp (pFb fd_90_2) ?_
 refine sr (rB1 ty_36) ?_
 refine sq ?_
 refine ci rfl rfl rfl (table_Full (l := n.t) ht) ?_
 rw [hf]
 refine sp (by first | exact pLm sl_138 | exact pLs sl_138 | exact pLv sl_138) ?_
 refine sp pM ?_
 refine oNil ?_
 refine aBlock ?_
 refine loopF (α := Nat) (kept := [(0, _), (2, _), (4, _), (12, _), (13, _)]) (fun i => i = 0) (fun i => [(14, .int i)]) (fun i => []) (fun i => i) 0 ?_ ⟨gInt rfl (by first | rfl | omega | simp), rfl, rfl, rfl, rfl, rfl, trivial⟩ (by repeat constructor) ?_
 ·skip
  rfl
 ·rintro i rfl
  refine aSeq ?_
  refine aReg ?_
  refine sp pB ?_
  refine oNil ?_
  refine aSeq ?_
  refine aCondF rfl ?_
  refine aExit rfl ?_
  exact finIs rfl rfl -- no aRet here
end A
end Go.Proofs.YthkgdhamnpiagaaGreat
namespace Go.Proofs.YthkgdhamnpiagaaGreat
namespace A
theorem fd_90_0 : fieldOf Tryz.prog 90 0 = some (0, 1, false) := by kernel_rfl
theorem fd_90_5 : fieldOf Tryz.prog 90 5 = some (6, 1, false) := by kernel_rfl
theorem st_168 : structPlaces Tryz.prog 168 = some [(0, 1), (1, 1)] := by kernel_rfl
theorem plan_last {db : List Lsa} {me : Int} {t : List Nr} {s : Spc} (h : (planL db me t s).2.2 = 0) : ∃ p x, (planL db me t s).1 = p ++ [lsaCh x] ∧ p.length ≤ 1 := by
 unfold planL at h ⊢
 split
 ·rename_i h1; rw [if_pos h1] at h; cases h
 ·rename_i h1
  rw [if_neg h1] at h
  split
  ·rename_i h2; rw [if_pos h2] at h; exact absurd h h2.2
  ·rename_i h2
   rw [if_neg h2] at h
   split
   ·rename_i h3; rw [if_pos h3] at h; cases h
   ·exact ⟨_, _, rfl, by split <;> simp⟩
/- node.Node).tell -/
def node_tell0_r2_T : Bool × List (List Nat × List Nat) := (true, [([], []), ([], []), ([1], [1]), ([2], [2]), ([3], [3]), ([], []), ([5], [5]), ([6], [6]), ([7], [7]), ([], []), ([9], [9]), ([10], [10]), ([11], [11]), ([0, 4, 8, 12], [0, 4, 8, 12]), ([13], [13])])
def node_tell0_r2_B : List Nat := [0, 0, 2, 6, 14, 0, 32, 96, 224, 0, 512, 1536, 3584, 8191, 16383]
theorem node_tell0_r2_t : Go.Proofs.YthkgdhamnpiagaaGreatW.PrintLast.rtab .any (Go.Proofs.YthkgdhamnpiagaaGreatW.PrintLast.opsOf Tryz.f54 2) = node_tell0_r2_T := by kernel_rfl
theorem node_tell0_r2_b : Go.Proofs.YthkgdhamnpiagaaGreatW.PrintLast.waitsOk node_tell0_r2_T.2 node_tell0_r2_B = true := by kernel_rfl
def node_tell0_r4_T : Bool × List (List Nat × List Nat) := (true, [([], []), ([], []), ([1], [1]), ([2], [2]), ([3], [3]), ([], []), ([5], [5]), ([6], [6]), ([7], [7]), ([], []), ([9], [9]), ([10], [10]), ([11], [11]), ([0, 4, 8, 12], [0, 4, 8, 12]), ([13], [13]), ([14], [14]), ([14], [14]), ([14], [14]), ([], []), ([15, 13, 0, 1, 2, 3, 4, 5, 6, 7, 8, 9, 10, 11, 12, 13, 14, 15, 18], [15]), ([18, 16, 19, 0, 1, 2, 3, 4, 5, 6, 7, 8, 9, 10, 11, 12, 13, 14, 15, 16, 18, 19], [16, 18]), ([17, 20, 0, 1, 2, 3, 4, 5, 6, 7, 8, 9, 10, 11, 12, 13, 14, 15, 16, 17, 18, 19, 20], [17])])
def node_tell0_r4_B : List Nat := [0, 0, 2, 6, 14, 0, 32, 96, 224, 0, 512, 1536, 3584, 8191, 16383, 32767, 32767, 32767, 0, 327679, 917503, 2097151]
theorem node_tell0_r4_t : Go.Proofs.YthkgdhamnpiagaaGreatW.PrintLast.rtab .any (Go.Proofs.YthkgdhamnpiagaaGreatW.PrintLast.opsOf Tryz.f54 4) = node_tell0_r4_T := by kernel_rfl
theorem node_tell0_r4_b : Go.Proofs.YthkgdhamnpiagaaGreatW.PrintLast.waitsOk node_tell0_r4_T.2 node_tell0_r4_B = true := by kernel_rfl
set_option maxRecDepth 100000 in
set_option maxHeartbeats 4000000 in
theorem node_tell0 {nb tb wb mb ob db bs bw m : Nat} {oc : List AV} {n : Nd} {V : WS} {s : St} {S W : List (Int × BS)} {D : DW} (r : Rel m S W D) (o : WOk V m) (hl : s.db.length ≤ 1000) (hel : s.eps.length ≤ 1000) (hk : ∀ x ∈ s.db, x.ls.length ≤ 1000) (ht : n.t.length ≤ 1000000) (hf : fullT n.t = []) (hn : -9223372036854775807 ≤ n.own.next ∧ n.own.next ≤ 9223372036854775807) : Triple Tryz.prog 54 [.v (.pointer (some ⟨nb, 0, none⟩))] (.box nb (ndC tb mb ob n) :: .box ob oc :: .box tb (.v (.pointer (some ⟨wb, 0, none⟩)) :: stC s) :: .box wb (wsC db V) :: [.box db [.int m, .v (.map (some bs)), .v (.map (some bw)), .int D.armed, .v (.bool D.dead)], .map bs (kvA S), .map bw (kvA W)]) (fun q h' => q = .int (tellN V s D n).2.2.2.2 ∧ ∃ S' W' ob' oc', Rel m S' W' (tellN V s D n).2.2.1 ∧ h' = (.box nb (ndC tb mb ob' (tellN V s D n).2.2.2.1) :: .box ob' oc' :: .box tb (.v (.pointer (some ⟨wb, 0, none⟩)) :: stC (tellN V s D n).2.1) :: .box wb (wsC db (tellN V s D n).1) :: [.box db [.int m, .v (.map (some bs)), .v (.map (some bw)), .int (tellN V s D n).2.2.1.armed, .v (.bool (tellN V s D n).2.2.1.dead)], .map bs (kvA S'), .map bw (kvA W')])) := by
 refine triple_of Tryz.func54 rfl (by kernel_rfl) rfl (by simp) ?_
 refine aSeq ?_
 refine aReg ?_
 refine sp pMa ?_
 refine oNil ?_
 refine aSeq ?_
 refine aReg ?_
 refine sp pM ?_
 refine sp pNv ?_
 refine sp (pFb fd_90_1) ?_
 refine sr (rB1 ty_80) ?_
 refine sa ?_
 refine cai rfl rfl rfl (store_State (tb := tb) (wb := wb) (s := s) hl hel hk) ?_
 refine sp (pF1 fd_35_0) ?_
 refine sp pMa ?_
 refine oNil ?_
 refine aSeq ?_
 refine aSeq ?_
 refine aDrawT node_tell0_r2_t node_tell0_r2_b [] 15 #[false, false, false, false, false, false, false, false, false, false, false, false, false, false, false] (by kernel_rfl) rfl rfl (fun HT => ?_)
 refine dp HT 0 rfl pM ?_
 refine dp HT 1 rfl pM ?_
 refine dp HT 2 rfl pNv ?_
 refine dp HT 3 rfl (pFb fd_90_0) ?_
 refine dr HT 4 rfl (rB1 ty_3) ?_
 refine dp HT 5 rfl pM ?_
 refine dp HT 6 rfl pNv ?_
 refine dp HT 7 rfl (pFb fd_90_2) ?_
 refine dr HT 8 rfl (rB1 ty_36) ?_
 refine dp HT 9 rfl pM ?_
 refine dp HT 10 rfl pNv ?_
 refine dp HT 11 rfl (pFb fd_90_5) ?_
 refine dr HT 12 rfl (rB1 ty_3) ?_
 refine dGo ?_
 refine e1 HT 13 rfl ?_
 refine ci rfl rfl rfl (own_Must (db := s.db) (me := n.id) (t := n.t) (first := n.first) (by omega) ht) ?_
 refine ef HT 14 rfl pNo ?_
 refine eE HT ?_
 clear HT
 refine aCondNot rfl (fun c29 => ?_) (fun c29 => ?_)
 ·skip
  refine aSeq ?_
  refine aReg ?_
  refine sp pMa ?_
  refine oNil ?_
  have hT : tellN V s D n = (V, s, D, n, 0) := by
    unfold tellN
    rw [if_pos (by simp_all)]
  refine aRet ?_
  rw [hT]
  exact ⟨_, [_, _, _, _, _, _, _], _, rfl, (.cons (by repeat constructor) (.cons (by repeat constructor) (.cons (by repeat constructor) (.cons (by repeat constructor) (.cons (by repeat constructor) (.cons (by repeat constructor) (.cons (by repeat constructor) .nil))))))), rfl, S, W, ob, oc, r, rfl⟩
 ·skip
  refine aSkip ?_
  refine aSeq ?_
  refine aDrawT node_tell0_r4_t node_tell0_r4_b [20] 22 #[false, false, false, false, false, false, false, false, false, false, false, false, false, false, false, false, false, false, false, false, false, false] (by kernel_rfl) rfl rfl (fun HT => ?_)
  refine dp HT 0 rfl pM ?_
  refine dp HT 1 rfl pM ?_
  refine dp HT 2 rfl pNv ?_
  refine dp HT 3 rfl (pFb fd_90_0) ?_
  refine dr HT 4 rfl (rB1 ty_3) ?_
  refine dp HT 5 rfl pM ?_
  refine dp HT 6 rfl pNv ?_
  refine dp HT 7 rfl (pFb fd_90_2) ?_
  refine dr HT 8 rfl (rB1 ty_36) ?_
  refine dp HT 9 rfl pM ?_
  refine dp HT 10 rfl pNv ?_
  refine dp HT 11 rfl (pFb fd_90_4) ?_
  refine dr HT 12 rfl (by first | exact rBWa ty_40 | exact rBW ty_40 | exact rBA ty_40) ?_
  refine dGo ?_
  refine eTwoS (i := 13) (j := 18) #[true, true, true, true, true, true, true, true, true, true, true, true, true, true, false, false, false, false, false, false, false, false] #[true, true, true, true, true, true, true, true, true, true, true, true, true, false, false, false, false, false, true, false, false, false] rfl rfl (HT.two (by kernel_rfl)) (by decide) (by decide) ?_ ?_
  ·skip
   refine stQ (wantN rfl) (fun t ht => by cases ht <;> decide) ?_
   refine ci rfl rfl rfl (own_Plan (db := s.db) (me := n.id) (t := n.t) (s := n.own) (by omega) ht hn) ?_
   refine undel (d := 44) rfl ?_
   refine ef HT 14 rfl pM ?_
   refine ef HT 15 rfl pX ?_
   refine ef HT 16 rfl pX ?_
   refine ef HT 17 rfl pX ?_
   refine e1 HT 18 rfl ?_
   refine qAlloc rfl rfl (by decide) ze_40 rfl (fun b5 => ?_)
   refine ef HT 19 rfl pMa ?_
   refine eLast ?_
   refine f1 HT 20 rfl ?_
   refine oStW rfl rfl rfl rfl (by repeat constructor) ty_40 ?_
   refine fp HT 21 rfl pMa ?_
   refine fE HT ?_
   clear HT
   refine aSeq ?_
   refine aSeq ?_
   refine aReg ?_
   refine sp pM ?_
   refine sp pB ?_
   refine oNil ?_
   refine aCondNe rfl (fun c49 => ?_) (fun c49 => ?_)
   ·skip
    refine aSeq ?_
    refine aReg ?_
    refine sp pM ?_
    refine sp pMa ?_
    refine oNil ?_
    have hT : tellN V s D n = (V, s, D, n, (planL s.db n.id n.t n.own).2.2) := by
      unfold tellN
      rw [if_neg (by simp_all), if_pos (by simp_all)]
    refine aRet ?_
    rw [hT]
    exact ⟨_, [_, _, _, _, _, _, _], _, rfl, (.cons (by repeat constructor) (.cons (by repeat constructor) (.cons (by repeat constructor) (.cons (by repeat constructor) (.cons (by repeat constructor) (.cons (by repeat constructor) (.cons (by repeat constructor) .nil))))))), rfl, S, W, ob, oc, r, rfl⟩
   ·skip
    refine aSkip ?_
    refine aSeq ?_
    refine aSeq ?_
    have hM : mustB s.db n.id n.t n.first ≠ false := by simp_all
    have hP : (planL s.db n.id n.t n.own).2.2 = 0 := by simp_all
    obtain ⟨p, x, hpx, hpl⟩ := plan_last hP
    refine aReg ?_
    refine sp pM ?_
    refine sp pM ?_
    refine sa ?_
    refine ca rfl rfl rfl (node_keep (nb := nb) (tb := tb) (wb := wb) (mb := mb) (ob := ob) (db := db) (oc := oc) (n := n) (V := V) (s := s) (l := (planL s.db n.id n.t n.own).1) r o hl hel (by rw [hpx, List.length_append]; simp only [List.length_cons, List.length_nil]; omega)) ?_
    rintro _ _ ⟨rfl, S2, W2, ob2, oc2, r2, rfl⟩
    refine sp pMa ?_
    refine oNil ?_
    refine aSeq ?_
    refine aReg ?_
    refine sp pM ?_
    refine sp pB ?_
    refine oNil ?_
    refine aCondNe rfl (fun c55 => ?_) (fun c55 => ?_)
    ·skip
     refine aSeq ?_
     refine aReg ?_
     refine sp pM ?_
     refine sp pMa ?_
     refine oNil ?_
     have hT : tellN V s D n = ((V.doS s D (planL s.db n.id n.t n.own).1).1, (V.doS s D (planL s.db n.id n.t n.own).1).2.1, (V.doS s D (planL s.db n.id n.t n.own).1).2.2.1, n.kept (V.doS s D (planL s.db n.id n.t n.own).1).2.2.2, (V.doS s D (planL s.db n.id n.t n.own).1).2.2.2) := by
       unfold tellN
       rw [if_neg hM, if_neg (not_not_intro hP), if_pos (by simp_all)]
     refine aRet ?_
     rw [hT]
     exact ⟨_, [_, _, _, _, _, _, _], _, rfl, (.cons (by repeat constructor) (.cons (by repeat constructor) (.cons (by repeat constructor) (.cons (by repeat constructor) (.cons (by repeat constructor) (.cons (by repeat constructor) (.cons (by repeat constructor) .nil))))))), rfl, S2, W2, ob2, oc2, r2, rfl⟩
    ·skip
     refine aSkip ?_
     refine aSeq ?_
     refine aReg ?_
     refine sp pM ?_
     refine sr (by first | exact rBWa ty_40 | exact rBW ty_40 | exact rBA ty_40) ?_
     refine sp pNv ?_
     refine sp (pFb fd_90_4) ?_
     refine sa ?_
     refine oStB rfl rfl rfl rfl (by repeat constructor) ty_40 rfl (Nat.le_of_ble_eq_true rfl) rfl ?_
     refine oNil ?_
     refine aSeq ?_
     have hcl : (planL s.db n.id n.t n.own).1.length = p.length + 1 := by rw [hpx]; simp
     have hcx : (planL s.db n.id n.t n.own).1[p.length]? = some (lsaCh x) := by rw [hpx]; simp
     refine aReg ?_
     refine sp pM ?_
     refine sp pM ?_
     refine sp (by first | exact pLm sl_105 | exact pLs sl_105 | exact pLv sl_105) ?_
     refine sp pSu ?_
     first | refine sp (pIx es_105) ?_ | (refine obtSN 61 64 rfl rfl (by omega) (fun x65 hx65 => ?_); refine sp (pIs es_105 hx65) ?_) | (refine obtS 61 64 rfl rfl (by omega) (by omega) (fun x65 hx65 => ?_); refine sp (pIs es_105 hx65) ?_) | refine sp (pIo es_105) ?_
     refine sp (by first | exact pFb fd_104_1 | exact pFs fd_104_1) ?_
     refine sr (by first | exact rSW ty_55 rfl | exact rSA ty_55 | exact rBWa ty_55 | exact rBW ty_55 | exact rBA ty_55 | exact rArA ty_55 (fun _ => rfl)) ?_
     refine sq ?_
     refine qAlloc rfl rfl (by decide) ze_55 rfl (fun b8 => ?_)
     refine sa ?_
     refine oStW rfl rfl rfl rfl (by repeat constructor) ty_55 ?_
     refine oNil ?_
     refine aSeq ?_
     have hE : (V.doS s D (planL s.db n.id n.t n.own).1).2.2.2 = 0 := by simp_all
     refine aWeak (weak_box (b := nb) (cs' := ndC tb mb ob2 { n.kept 0 with own := (planL s.db n.id n.t n.own).2.1 }) (by repeat constructor) (by rw [hE]; rfl)) ?_
     refine aReg ?_
     refine sp pM ?_
     refine sp (pFb fd_55_0) ?_
     refine sr (rB1 ty_3) ?_
     refine sp (pFb fd_55_1) ?_
     refine sr (rB1 ty_3) ?_
     refine sp (pBuild rfl st_168 ze_168 rfl rfl rfl rfl) ?_
     refine sa ?_
     refine cai rfl rfl rfl (node_owe0 (nb := nb) (tb := tb) (mb := mb) (ob := ob2) (n := { n.kept 0 with own := (planL s.db n.id n.t n.own).2.1 }) (x := ⟨x65.lsa.o, x65.lsa.s⟩) (bt := 0) ht hf) ?_
     refine oNil ?_
     refine aSeq ?_
     refine aReg ?_
     refine sp pMa ?_
     refine oNil ?_
     have hT : tellN V s D n = ((V.doS s D (planL s.db n.id n.t n.own).1).1, (V.doS s D (planL s.db n.id n.t n.own).1).2.1, (V.doS s D (planL s.db n.id n.t n.own).1).2.2.1, { n.kept 0 with own := (planL s.db n.id n.t n.own).2.1 }, 0) := by
       unfold tellN
       rw [if_neg hM, if_neg (not_not_intro hP), if_neg (by simp_all)]
     refine aRet ?_
     rw [hT]
     exact ⟨_, [_, _, _, _, _, _, _], _, rfl, (.cons (by repeat constructor) (.cons (by repeat constructor) (.cons (by repeat constructor) (.cons (by repeat constructor) (.cons (by repeat constructor) (.cons (by repeat constructor) (.cons (by repeat constructor) .nil))))))), rfl, S2, W2, ob2, oc2, r2, rfl⟩
  ·skip
   refine stQ (wantN rfl) (fun t ht => by cases ht <;> decide) ?_
   refine qAlloc rfl rfl (by decide) ze_40 rfl (fun b5 => ?_)
   refine undel (d := 5) rfl ?_
   refine e1 HT 13 rfl ?_
   refine ci rfl rfl rfl (own_Plan (db := s.db) (me := n.id) (t := n.t) (s := n.own) (by omega) ht hn) ?_
   refine ef HT 14 rfl pM ?_
   refine ef HT 15 rfl pX ?_
   refine ef HT 16 rfl pX ?_
   refine ef HT 17 rfl pX ?_
   refine ef HT 19 rfl pMa ?_
   refine eLast ?_
   refine f1 HT 20 rfl ?_
   refine oStW rfl rfl rfl rfl (by repeat constructor) ty_40 ?_
   refine fp HT 21 rfl pMa ?_
   refine fE HT ?_
   clear HT
   refine aSeq ?_
   refine aSeq ?_
   refine aReg ?_
   refine sp pM ?_
   refine sp pB ?_
   refine oNil ?_
   refine aCondNe rfl (fun c49 => ?_) (fun c49 => ?_)
   ·skip
    refine aSeq ?_
    refine aReg ?_
    refine sp pM ?_
    refine sp pMa ?_
    refine oNil ?_
    have hT : tellN V s D n = (V, s, D, n, (planL s.db n.id n.t n.own).2.2) := by
      unfold tellN
      rw [if_neg (by simp_all), if_pos (by simp_all)]
    refine aRet ?_
    rw [hT]
    exact ⟨_, [_, _, _, _, _, _, _], _, rfl, (.cons (by repeat constructor) (.cons (by repeat constructor) (.cons (by repeat constructor) (.cons (by repeat constructor) (.cons (by repeat constructor) (.cons (by repeat constructor) (.cons (by repeat constructor) .nil))))))), rfl, S, W, ob, oc, r, rfl⟩
   ·skip
    refine aSkip ?_
    refine aSeq ?_
    refine aSeq ?_
    have hM : mustB s.db n.id n.t n.first ≠ false := by simp_all
    have hP : (planL s.db n.id n.t n.own).2.2 = 0 := by simp_all
    obtain ⟨p, x, hpx, hpl⟩ := plan_last hP
    refine aReg ?_
    refine sp pM ?_
    refine sp pM ?_
    refine sa ?_
    refine ca rfl rfl rfl (node_keep (nb := nb) (tb := tb) (wb := wb) (mb := mb) (ob := ob) (db := db) (oc := oc) (n := n) (V := V) (s := s) (l := (planL s.db n.id n.t n.own).1) r o hl hel (by rw [hpx, List.length_append]; simp only [List.length_cons, List.length_nil]; omega)) ?_
    rintro _ _ ⟨rfl, S2, W2, ob2, oc2, r2, rfl⟩
    refine sp pMa ?_
    refine oNil ?_
    refine aSeq ?_
    refine aReg ?_
    refine sp pM ?_
    refine sp pB ?_
    refine oNil ?_
    refine aCondNe rfl (fun c55 => ?_) (fun c55 => ?_)
    ·skip
     refine aSeq ?_
     refine aReg ?_
     refine sp pM ?_
     refine sp pMa ?_
     refine oNil ?_
     have hT : tellN V s D n = ((V.doS s D (planL s.db n.id n.t n.own).1).1, (V.doS s D (planL s.db n.id n.t n.own).1).2.1, (V.doS s D (planL s.db n.id n.t n.own).1).2.2.1, n.kept (V.doS s D (planL s.db n.id n.t n.own).1).2.2.2, (V.doS s D (planL s.db n.id n.t n.own).1).2.2.2) := by
       unfold tellN
       rw [if_neg hM, if_neg (not_not_intro hP), if_pos (by simp_all)]
     refine aRet ?_
     rw [hT]
     exact ⟨_, [_, _, _, _, _, _, _], _, rfl, (.cons (by repeat constructor) (.cons (by repeat constructor) (.cons (by repeat constructor) (.cons (by repeat constructor) (.cons (by repeat constructor) (.cons (by repeat constructor) (.cons (by repeat constructor) .nil))))))), rfl, S2, W2, ob2, oc2, r2, rfl⟩
    ·skip
     refine aSkip ?_
     refine aSeq ?_
     refine aReg ?_
     refine sp pM ?_
     refine sr (by first | exact rBWa ty_40 | exact rBW ty_40 | exact rBA ty_40) ?_
     refine sp pNv ?_
     refine sp (pFb fd_90_4) ?_
     refine sa ?_
     refine oStB rfl rfl rfl rfl (by repeat constructor) ty_40 rfl (Nat.le_of_ble_eq_true rfl) rfl ?_
     refine oNil ?_
     refine aSeq ?_
     have hcl : (planL s.db n.id n.t n.own).1.length = p.length + 1 := by rw [hpx]; simp
     have hcx : (planL s.db n.id n.t n.own).1[p.length]? = some (lsaCh x) := by rw [hpx]; simp
     refine aReg ?_
     refine sp pM ?_
     refine sp pM ?_
     refine sp (by first | exact pLm sl_105 | exact pLs sl_105 | exact pLv sl_105) ?_
     refine sp pSu ?_
     first | refine sp (pIx es_105) ?_ | (refine obtSN 61 64 rfl rfl (by omega) (fun x65 hx65 => ?_); refine sp (pIs es_105 hx65) ?_) | (refine obtS 61 64 rfl rfl (by omega) (by omega) (fun x65 hx65 => ?_); refine sp (pIs es_105 hx65) ?_) | refine sp (pIo es_105) ?_
     refine sp (by first | exact pFb fd_104_1 | exact pFs fd_104_1) ?_
     refine sr (by first | exact rSW ty_55 rfl | exact rSA ty_55 | exact rBWa ty_55 | exact rBW ty_55 | exact rBA ty_55 | exact rArA ty_55 (fun _ => rfl)) ?_
     refine sq ?_
     refine qAlloc rfl rfl (by decide) ze_55 rfl (fun b8 => ?_)
     refine sa ?_
     refine oStW rfl rfl rfl rfl (by repeat constructor) ty_55 ?_
     refine oNil ?_
     refine aSeq ?_
     have hE : (V.doS s D (planL s.db n.id n.t n.own).1).2.2.2 = 0 := by simp_all
     refine aWeak (weak_box (b := nb) (cs' := ndC tb mb ob2 { n.kept 0 with own := (planL s.db n.id n.t n.own).2.1 }) (by repeat constructor) (by rw [hE]; rfl)) ?_
     refine aReg ?_
     refine sp pM ?_
     refine sp (pFb fd_55_0) ?_
     refine sr (rB1 ty_3) ?_
     refine sp (pFb fd_55_1) ?_
     refine sr (rB1 ty_3) ?_
     refine sp (pBuild rfl st_168 ze_168 rfl rfl rfl rfl) ?_
     refine sa ?_
     refine cai rfl rfl rfl (node_owe0 (nb := nb) (tb := tb) (mb := mb) (ob := ob2) (n := { n.kept 0 with own := (planL s.db n.id n.t n.own).2.1 }) (x := ⟨x65.lsa.o, x65.lsa.s⟩) (bt := 0) ht hf) ?_
     refine oNil ?_
     refine aSeq ?_
     refine aReg ?_
     refine sp pMa ?_
     refine oNil ?_
     have hT : tellN V s D n = ((V.doS s D (planL s.db n.id n.t n.own).1).1, (V.doS s D (planL s.db n.id n.t n.own).1).2.1, (V.doS s D (planL s.db n.id n.t n.own).1).2.2.1, { n.kept 0 with own := (planL s.db n.id n.t n.own).2.1 }, 0) := by
       unfold tellN
       rw [if_neg hM, if_neg (not_not_intro hP), if_neg (by simp_all)]
     refine aRet ?_
     rw [hT]
     exact ⟨_, [_, _, _, _, _, _, _], _, rfl, (.cons (by repeat constructor) (.cons (by repeat constructor) (.cons (by repeat constructor) (.cons (by repeat constructor) (.cons (by repeat constructor) (.cons (by repeat constructor) (.cons (by repeat constructor) .nil))))))), rfl, S2, W2, ob2, oc2, r2, rfl⟩
end A
end Go.Proofs.YthkgdhamnpiagaaGreat
namespace Go.Proofs.YthkgdhamnpiagaaGreat
namespace A
/- node.Node).Table -/
set_option maxRecDepth 100000 in
set_option maxHeartbeats 400000 in
theorem node_Table {nb tb mb ob : Nat} {n : Nd} (ht : n.t.length ≤ 1000000) : Triple Tryz.prog 28 [.v (.pointer (some ⟨nb, 0, none⟩))] [.box nb (ndC tb mb ob n)] (Own 147 8 (n.t.map nrC) [.box nb (ndC tb mb ob n)]) := by
 refine triple_of Tryz.func28 rfl (by kernel_rfl) rfl (by simp) ?_
 refine aSeq ?_
 refine aReg ?_
 refine sp pMa ?_
 refine oNil ?_
 refine aSeq ?_
 refine aSeq ?_
 refine aReg ?_
 refine sp pM ?_
 refine sp (by first | exact pPtrNil rfl (.inl rfl) rfl pt_29 rfl rfl | exact pSpNil rfl (.inl rfl) rfl pt_29 rfl) ?_
 refine oNil ?_
 refine aCondF rfl ?_
 refine aSkip ?_
 refine aSeq ?_
 refine aReg ?_
 refine sp pM ?_
 refine sp pNv ?_
 refine sp (pFb fd_90_2) ?_
 refine sr (rB1 ty_36) ?_
 refine sa ?_
 first | refine coM rfl rfl rfl (clone_Nr (l := n.t) ht) (fun g9 k9 => ?_) | refine co rfl rfl rfl (clone_Nr (l := n.t) ht) (fun g9 k9 => ?_)
 refine sp pMa ?_
 refine oNil ?_
 refine aRet ?_
 refine finOwn rfl ?_
 rfl
/- node.Node).Tick -/
set_option maxRecDepth 100000 in
set_option maxHeartbeats 4000000 in
theorem node_Tick0 {nb tb wb mb ob db bs bw m : Nat} {oc : List AV} {n : Nd} {V : WS} {s : St} {S W : List (Int × BS)} {D : DW} (r : Rel m S W D) (o : WOk V m) (hl : s.db.length ≤ 1000) (hel : s.eps.length ≤ 1000) (hk : ∀ x ∈ s.db, x.ls.length ≤ 1000) (ht : n.t = []) (hs : n.stopped = false) (hn : -9223372036854775807 ≤ n.own.next ∧ n.own.next ≤ 9223372036854775807) : Triple Tryz.prog 22 [.v (.pointer (some ⟨nb, 0, none⟩))] (.box nb (ndC tb mb ob n) :: .box ob oc :: .box tb (.v (.pointer (some ⟨wb, 0, none⟩)) :: stC s) :: .box wb (wsC db V) :: [.box db [.int m, .v (.map (some bs)), .v (.map (some bw)), .int D.armed, .v (.bool D.dead)], .map bs (kvA S), .map bw (kvA W)]) (fun q h' => q = .tup [.v (.slice none 0 0), .int (tellN V s D n).2.2.2.2] ∧ ∃ S' W' ob' oc', Rel m S' W' (tellN V s D n).2.2.1 ∧ h' = (.box nb (ndC tb mb ob' (tellN V s D n).2.2.2.1) :: .box ob' oc' :: .box tb (.v (.pointer (some ⟨wb, 0, none⟩)) :: stC (tellN V s D n).2.1) :: .box wb (wsC db (tellN V s D n).1) :: [.box db [.int m, .v (.map (some bs)), .v (.map (some bw)), .int (tellN V s D n).2.2.1.armed, .v (.bool (tellN V s D n).2.2.1.dead)], .map bs (kvA S'), .map bw (kvA W')])) := by
 have ht2 : (tellN V s D n).2.2.2.1.t = [] := by rw [← ht]; unfold tellN; split; rfl; split; rfl; split; rfl; rfl
 refine triple_of Tryz.func22 rfl (by kernel_rfl) rfl (by simp) ?_
 refine aSeq ?_
 refine aReg ?_
 refine sp pMa ?_
 refine sp pMa ?_
 refine oNil ?_
 refine aSeq ?_
 refine aSeq ?_
 refine aReg ?_
 refine sp pM ?_
 refine sa ?_
 refine cai rfl rfl rfl (node_is (nb := nb) (tb := tb) (mb := mb) (ob := ob) (n := n)) ?_
 rw [hs]
 refine sp pNo ?_
 refine oNil ?_
 refine aCondF rfl ?_
 refine aSkip ?_
 refine aSeq ?_
 refine aSeq ?_
 refine aReg ?_
 refine sp pM ?_
 refine sa ?_
 first | refine coM rfl rfl rfl (node_Table (nb := nb) (tb := tb) (mb := mb) (ob := ob) (n := n) (by rw [ht]; simp)) (fun g17 k17 => ?_) | refine co rfl rfl rfl (node_Table (nb := nb) (tb := tb) (mb := mb) (ob := ob) (n := n) (by rw [ht]; simp)) (fun g17 k17 => ?_)
 refine sp (by first | exact pLm sl_36 | exact pLs sl_36 | exact pLv sl_36) ?_
 rw [ht]
 refine sp pM ?_
 refine oNil ?_
 refine aBlock ?_
 refine loopF (α := Nat) (kept := [(0, _), (17, _), (18, _)]) (fun i => i = 0) (fun i => [(19, .int i)]) (fun i => []) (fun i => i) 0 ?_ ⟨gInt rfl (by first | rfl | omega | simp), rfl, rfl, rfl, trivial⟩ (by repeat constructor) ?_
 ·skip
  rfl
 ·rintro i rfl
  refine aSeq ?_
  refine aReg ?_
  refine sp pB ?_
  refine oNil ?_
  refine aSeq ?_
  refine aCondF rfl ?_
  refine aExit rfl ?_
  refine aSeq ?_
  refine aReg ?_
  refine sp pM ?_
  refine sa ?_
  refine ca rfl rfl rfl (node_tell0 (nb := nb) (tb := tb) (wb := wb) (mb := mb) (ob := ob) (db := db) (oc := oc) (n := n) (V := V) (s := s) r o hl hel hk (by rw [ht]; simp) (by rw [ht]; rfl) hn) ?_
  rintro _ _ ⟨rfl, S2, W2, ob2, oc2, r2, rfl⟩
  refine sp pMa ?_
  refine oNil ?_
  refine aSeq ?_
  refine aSeq ?_
  refine aReg ?_
  refine sp pM ?_
  refine sp pNv ?_
  refine sp (pFb fd_90_6) ?_
  refine sr (rB1 ty_4) ?_
  refine oNil ?_
  refine aCond rfl (fun c39 => ?_) (fun c39 => ?_)
  ·skip
   refine aSeq ?_
   refine aReg ?_
   refine sp pM ?_
   refine sp pMa ?_
   refine sp pMa ?_
   refine oNil ?_
   refine aRet ?_
   exact ⟨_, [_, _, _, _, _, _, _], _, rfl, (.cons (by repeat constructor) (.cons (by repeat constructor) (.cons (by repeat constructor) (.cons (by repeat constructor) (.cons (by repeat constructor) (.cons (by repeat constructor) (.cons (by repeat constructor) .nil))))))), rfl, S2, W2, ob2, oc2, r2, rfl⟩
  ·skip
   refine aSkip ?_
   refine aSeq ?_
   refine aReg ?_
   refine sp pMa ?_
   refine oNil ?_
   refine aSeq ?_
   refine aSeq ?_
   refine aReg ?_
   refine sp pM ?_
   refine sp pNv ?_
   refine sp (pFb fd_90_2) ?_
   refine sr (rB1 ty_36) ?_
   refine sp (by first | exact pLm sl_36 | exact pLs sl_36 | exact pLv sl_36) ?_
   rw [ht2]
   refine sp pM ?_
   refine oNil ?_
   refine aBlock ?_
   refine loopF (α := Nat) (kept := [(0, _), (9, _), (44, _), (45, _)]) (fun i => i = 0) (fun i => [(10, .v (.slice none 0 0)), (46, .int i)]) (fun i => []) (fun i => i) 0 ?_ ⟨rfl, gInt rfl (by first | rfl | omega | simp), rfl, rfl, rfl, rfl, trivial⟩ (by repeat constructor) ?_
   ·skip
    rfl
   ·rintro i rfl
    refine aSeq ?_
    refine aReg ?_
    refine sp pB ?_
    refine oNil ?_
    refine aSeq ?_
    refine aCondF rfl ?_
    refine aExit rfl ?_
    refine aSeq ?_
    refine aReg ?_
    refine sp pM ?_
    refine sp pM ?_
    refine sp pMa ?_
    refine sp pMa ?_
    refine oNil ?_
    refine aRet ?_
    exact ⟨_, [_, _, _, _, _, _, _], _, rfl, (.cons (by repeat constructor) (.cons (by repeat constructor) (.cons (by repeat constructor) (.cons (by repeat constructor) (.cons (by repeat constructor) (.cons (by repeat constructor) (.cons (by repeat constructor) .nil))))))), rfl, S2, W2, ob2, oc2, r2, rfl⟩
end A
end Go.Proofs.YthkgdhamnpiagaaGreat
namespace Go.Proofs.YthkgdhamnpiagaaGreat
namespace A
theorem st_90 : structPlaces Tryz.prog 90 = some [(0, 1), (1, 1), (2, 1), (3, 1), (4, 2), (6, 1), (7, 1), (8, 1), (9, 1), (10, 1), (11, 1)] := by kernel_rfl
theorem ze_90 : zeroOf Tryz.prog 90 = some (.agg #[.int .i64 0, .pointer none, .slice none 0 0, .map none, .int .i64 0, .int .i64 0, .int .i64 0, .bool false, .pointer none, .slice none 0 0, .int .i64 0, .int .i64 0]) := by kernel_rfl
def bootCh (n : Int) : Chg := ⟨3, lsa0, n, 0⟩
/-- What a node keeps when it starts: log, state, disk, an error. -/
def nodeStart (id : Int) (D : DW) (m : Nat) : WS × St × DW × Int :=
 if inr id 1 64 = false then (wal0, st0, D, 1) else
 if (storeOpen D m).e ≠ 0 then (wal0, st0, (storeOpen D m).d, (storeOpen D m).e) else
 if 1073741824 ≤ (storeOpen D m).s.boot then (wal0, st0, (storeOpen D m).d, 9) else
 (storeOpen D m).w.doS (storeOpen D m).s (storeOpen D m).d [bootCh ((storeOpen D m).s.boot + 1)]
def startNd (id upto : Int) : Nd := ⟨id, [], (afterS upto).1, (afterS upto).1.next, false, .v (.slice none 0 0), 0, 0⟩
structure OOk (O : SOpn) (m : Nat) : Prop where
 w : WOk O.w m
 dl : O.s.db.length ≤ 1000
 el : O.s.eps.length ≤ 1000
 k : ∀ x ∈ O.s.db, x.ls.length ≤ 1000
 b : -4611686018427387904 ≤ O.s.boot
/- node.Start -/
set_option maxRecDepth 100000 in
set_option maxHeartbeats 4000000 in
theorem node_Start {id : Int} {db bs bw m : Nat} {S W : List (Int × BS)} {D : DW} (r : Rel m S W D) (hk : ∀ s ∈ secL D m, BOk s) (hb : (walOpen D m).b.length ≤ 900000) (hbk : BOk (walOpen D m).b) (hrl : (walOpen D m).recs.length ≤ 1000000) (hrb : ∀ r ∈ (walOpen D m).recs, r.length ≤ 900000) (hrk : ∀ r ∈ (walOpen D m).recs, BOk r) (hO : (storeOpen D m).e = 0 → OOk (storeOpen D m) m) : Triple Tryz.prog 9 [.int id, .v (.pointer (some ⟨db, 0, none⟩))] [.box db [.int m, .v (.map (some bs)), .v (.map (some bw)), .int D.armed, .v (.bool D.dead)], .map bs (kvA S), .map bw (kvA W)] (fun q h' => ∃ v S' W', Rel m S' W' (nodeStart id D m).2.2.1 ∧ q = .tup [.v v, .int (nodeStart id D m).2.2.2] ∧ (((nodeStart id D m).2.2.2 = 0 ∧ ∃ nb tb wb mb ob, v = .pointer (some ⟨nb, 0, none⟩) ∧ h' = .box nb (ndC tb mb ob (startNd id (storeOpen D m).s.upto)) :: .map mb [] :: .box ob onC :: .box tb (.v (.pointer (some ⟨wb, 0, none⟩)) :: stC (nodeStart id D m).2.1) :: .box wb (wsC db (nodeStart id D m).1) :: [.box db [.int m, .v (.map (some bs)), .v (.map (some bw)), .int (nodeStart id D m).2.2.1.armed, .v (.bool (nodeStart id D m).2.2.1.dead)], .map bs (kvA S'), .map bw (kvA W')]) ∨ ((nodeStart id D m).2.2.2 ≠ 0 ∧ v = .pointer none ∧ h' = [.box db [.int m, .v (.map (some bs)), .v (.map (some bw)), .int (nodeStart id D m).2.2.1.armed, .v (.bool (nodeStart id D m).2.2.1.dead)], .map bs (kvA S'), .map bw (kvA W')]))) := by
 refine triple_of Tryz.func9 rfl (by kernel_rfl) rfl (by simp) ?_
 refine aSeq ?_
 refine aReg ?_
 refine sp pMa ?_
 refine sp pMa ?_
 refine oNil ?_
 refine aSeq ?_
 refine aSeq ?_
 refine aReg ?_
 refine sp pM ?_
 refine sq ?_
 refine cv rfl rfl rfl (lents_refl _) node_within ?_
 refine sp pNo ?_
 refine oNil ?_
 refine aCondNot rfl (fun c14 => ?_) (fun c14 => ?_)
 ·skip
  refine aSeq ?_
  refine aReg ?_
  refine sp pMa ?_
  refine sp pMa ?_
  refine oNil ?_
  have hR : (nodeStart id D m) = (wal0, st0, D, 1) := by
    unfold nodeStart
    rw [if_pos (by simp_all)]
  refine aRet ?_
  rw [hR]
  exact ⟨_, [_, _, _], _, rfl, (.cons (by repeat constructor) (.cons (by repeat constructor) (.cons (by repeat constructor) .nil))), .pointer none, S, W, r, rfl, .inr ⟨by show (1 : Int) ≠ 0; decide, rfl, rfl⟩⟩
 ·skip
  refine aSkip ?_
  refine aSeq ?_
  refine aReg ?_
  refine sp pM ?_
  refine sa ?_
  refine ca rfl rfl rfl (store_Open (db := db) r hk hb hbk hrl hrb hrk) ?_
  rintro _ hh ⟨v, S2, W2, r2, rfl, hc⟩
  refine sp pM ?_
  refine sp pX ?_
  refine sp pX ?_
  refine sp pMa ?_
  refine sp pMa ?_
  refine oNil ?_
  refine aSeq ?_
  refine aSeq ?_
  refine aReg ?_
  refine sp pM ?_
  refine sp pB ?_
  refine oNil ?_
  refine aCondNe rfl (fun c21 => ?_) (fun c21 => ?_)
  ·skip
   refine aSeq ?_
   refine aReg ?_
   refine sp pM ?_
   refine sp pMa ?_
   refine sp pMa ?_
   refine oNil ?_
   obtain ⟨he, rfl, rfl⟩ := hc.resolve_left (fun h => by simp_all)
   have hR : (nodeStart id D m) = (wal0, st0, (storeOpen D m).d, (storeOpen D m).e) := by
     unfold nodeStart
     rw [if_neg (by simp_all), if_pos he]
   refine aRet ?_
   rw [hR]
   exact ⟨_, [_, _, _], _, rfl, (.cons (by repeat constructor) (.cons (by repeat constructor) (.cons (by repeat constructor) .nil))), .pointer none, S2, W2, r2, rfl, .inr ⟨he, rfl, rfl⟩⟩
  ·skip
   refine aSkip ?_
   refine aSeq ?_
   obtain ⟨he, tb, wb, rfl, rfl⟩ := hc.resolve_right (fun h => h.1 (by simp_all))
   have oo := hO he
   have hb0 := oo.b
   refine aReg ?_
   refine sp pM ?_
   refine sa ?_
   refine cai rfl rfl rfl (store_State (tb := tb) (wb := wb) (s := (storeOpen D m).s) oo.dl oo.el oo.k) ?_
   refine sq ?_
   refine qAlloc rfl rfl (by decide) ze_35 rfl (fun b8 => ?_)
   refine sa ?_
   refine oStW rfl rfl rfl rfl (by repeat constructor) ty_35 ?_
   refine oNil ?_
   refine aSeq ?_
   refine aSeq ?_
   refine aReg ?_
   refine sp (pFb fd_35_2) ?_
   refine sr (rB1 ty_3) ?_
   refine sp pB ?_
   refine oNil ?_
   refine aCondDec rfl (fun c27 => ?_) (fun c27 => ?_)
   ·skip
    refine aSeq ?_
    refine aReg ?_
    refine sp pMa ?_
    refine sp pMa ?_
    refine oNil ?_
    have hR : (nodeStart id D m) = (wal0, st0, (storeOpen D m).d, 9) := by
      unfold nodeStart
      rw [if_neg (by simp_all), if_neg (not_not_intro he), if_pos (by omega)]
    refine aRet ?_
    rw [hR]
    exact ⟨_, [_, _, _], _, rfl, (.cons (by repeat constructor) (.cons (by repeat constructor) (.cons (by repeat constructor) .nil))), .pointer none, S2, W2, r2, rfl, .inr ⟨by show (9 : Int) ≠ 0; decide, rfl, rfl⟩⟩
   ·skip
    refine aSkip ?_
    refine aSeq ?_
    refine aSeq ?_
    refine aReg ?_
    refine sp pM ?_
    refine sp (pFb fd_35_2) ?_
    refine sr (rB1 ty_3) ?_
    refine sp pAd ?_
    refine sp (pBuild rfl st_104 ze_104 rfl rfl rfl rfl) ?_
    refine sq ?_
    refine qLit (l := [_]) rfl rfl (by decide) us_105 ty_104 ze_104 rfl (by decide) (by decide) rfl rfl rfl (fun b33 => ?_)
    refine oWeak (weak_cast1 (y' := chgC (bootCh ((storeOpen D m).s.boot + 1))) .hd rfl (.cons .refl (.cons .refl (.cons .refl (.cons cast_nil (.cons .refl (.cons .refl .nil))))))) ?_
    refine oWeak (weak_settle (k := 33) rfl (by repeat constructor) (by simp)) ?_
    refine sa ?_
    refine ca rfl rfl rfl (store_Do (tb := tb) (wb := wb) (db := db) (V := (storeOpen D m).w) (s := (storeOpen D m).s) (l := [bootCh ((storeOpen D m).s.boot + 1)]) r2 oo.w oo.dl oo.el (by simp)) ?_
    rintro _ _ ⟨rfl, S3, W3, r3, rfl⟩
    refine sp pMa ?_
    refine oNil ?_
    refine aSeq ?_
    refine aReg ?_
    refine sp pM ?_
    refine sp pB ?_
    refine oNil ?_
    refine aCondNe rfl (fun c36 => ?_) (fun c36 => ?_)
    ·skip
     refine aSeq ?_
     refine aReg ?_
     refine sp pM ?_
     refine sp pMa ?_
     refine sp pMa ?_
     refine oNil ?_
     have hd : ((storeOpen D m).w.doS (storeOpen D m).s (storeOpen D m).d [bootCh ((storeOpen D m).s.boot + 1)]).2.2.2 ≠ 0 := by simp_all
     have hR : (nodeStart id D m) = (((storeOpen D m).w.doS (storeOpen D m).s (storeOpen D m).d [bootCh ((storeOpen D m).s.boot + 1)]).1, ((storeOpen D m).w.doS (storeOpen D m).s (storeOpen D m).d [bootCh ((storeOpen D m).s.boot + 1)]).2.1, ((storeOpen D m).w.doS (storeOpen D m).s (storeOpen D m).d [bootCh ((storeOpen D m).s.boot + 1)]).2.2.1, ((storeOpen D m).w.doS (storeOpen D m).s (storeOpen D m).d [bootCh ((storeOpen D m).s.boot + 1)]).2.2.2) := by
       unfold nodeStart
       rw [if_neg (by simp_all), if_neg (not_not_intro he), if_neg (by omega)]
     refine aRet ?_
     rw [hR]
     exact ⟨_, [_, _, _], _, rfl, (.cons (by repeat constructor) (.cons (by repeat constructor) (.cons (by repeat constructor) .nil))), .pointer none, S3, W3, r3, rfl, .inr ⟨hd, rfl, rfl⟩⟩
    ·skip
     refine aSkip ?_
     refine aSeq ?_
     refine aReg ?_
     refine sp (pFb fd_35_1) ?_
     refine sr (rB1 ty_3) ?_
     refine sq ?_
     refine ci rfl rfl rfl (space_After (n := (storeOpen D m).s.upto)) ?_
     refine sp pM ?_
     refine sp pX ?_
     refine sp pX ?_
     refine sq ?_
     refine qAlloc rfl rfl (by decide) ze_40 rfl (fun b10 => ?_)
     refine sa ?_
     refine oStW rfl rfl rfl rfl (by repeat constructor) ty_40 ?_
     refine sp pMa ?_
     refine oNil ?_
     refine aSeq ?_
     refine aReg ?_
     refine sp pM ?_
     refine sp pM ?_
     refine sq ?_
     refine qMakeMap rfl rfl (by decide) (fun b46 => ?_)
     refine sr (by first | exact rBWa ty_40 | exact rBW ty_40 | exact rBA ty_40) ?_
     refine sp (pFb fd_40_0) ?_
     refine sr (rB1 ty_3) ?_
     refine sp (pBuild rfl st_117 ze_117 rfl rfl rfl rfl) ?_
     refine sq ?_
     refine qBox rfl rfl (by decide) rfl rfl (fun b51 => ?_)
     refine sp (pBuild rfl st_90 ze_90 rfl rfl rfl rfl) ?_
     refine sq ?_
     refine qBox rfl rfl (by decide) rfl rfl (fun b53 => ?_)
     refine sp pMa ?_
     refine sp pMa ?_
     refine oNil ?_
     have hd : ((storeOpen D m).w.doS (storeOpen D m).s (storeOpen D m).d [bootCh ((storeOpen D m).s.boot + 1)]).2.2.2 = 0 := by simp_all
     have hR : (nodeStart id D m) = ((storeOpen D m).w.doS (storeOpen D m).s (storeOpen D m).d [bootCh ((storeOpen D m).s.boot + 1)]) := by
       unfold nodeStart
       rw [if_neg (by simp_all), if_neg (not_not_intro he), if_neg (by omega)]
     refine aWeak (weak_castB (b := b53) (cs' := ndC tb b46 b51 (startNd id (storeOpen D m).s.upto)) (by repeat constructor) (.cons .refl (.cons .refl (.cons cast_nil (.cons .refl (.cons .refl (.cons .refl (.cons .refl (.cons .refl (.cons .refl (.cons .refl (.cons .refl (.cons .refl .nil))))))))))))) ?_
     refine aRet ?_
     rw [hR]
     exact ⟨_, [_, _, _, _, _, _, _, _], _, rfl, (.cons (by repeat constructor) (.cons (by repeat constructor) (.cons (by repeat constructor) (.cons (by repeat constructor) (.cons (by repeat constructor) (.cons (by repeat constructor) (.cons (by repeat constructor) (.cons (by repeat constructor) .nil)))))))), .pointer (some ⟨b53, 0, none⟩), S3, W3, r3, by rw [hd]; rfl, .inl ⟨hd, b53, tb, wb, b46, b51, rfl, rfl⟩⟩
end A
end Go.Proofs.YthkgdhamnpiagaaGreat
namespace Go.Proofs.YthkgdhamnpiagaaGreat
namespace A
/-- A disk of n sectors that does not die. -/
structure Live (D : DW) (n : Nat) : Prop where
 a : D.armed = -1
 d : D.dead = false
 s : D.safe.length = n
 w : D.waits.length = n
theorem live_new (n : Nat) : Live (DW.new n) n := ⟨rfl, rfl, by simp [DW.new], by simp [DW.new]⟩
theorem live_act {D : DW} {n : Nat} (h : Live D n) : D.act = (D, true) := by
 obtain ⟨h1, h2, _, _⟩ := h
 cases D
 simp only at h1 h2
 subst h1 h2
 rfl
theorem live_write {D : DW} {n : Nat} {i : Int} {b : BS} (h : Live D n) (h0 : 0 ≤ i) (h1 : i < n) (hb : b.length = 512) : (D.write i b).2 = 0 ∧ Live (D.write i b).1 n := by
 have ha := live_act h
 have hs := h.s
 unfold DW.write
 rw [if_neg (by rw [h.d]; decide), if_neg (by omega), ha]
 simp only [if_true]
 exact ⟨trivial, h.a, h.d, h.s, by rw [List.length_set]; exact h.w⟩
theorem live_flush {D : DW} {n : Nat} (h : Live D n) : D.flush.2 = 0 ∧ Live D.flush.1 n := by
 unfold DW.flush
 rw [live_act h]
 simp only [if_true]
 exact ⟨trivial, h.a, rfl, by simp [h.s], by simp [h.s]⟩
theorem live_all {n : Nat} : ∀ (l : List BS) {D : DW} {fr : Int}, Live D n → 0 ≤ fr → fr + l.length ≤ n → (∀ b ∈ l, b.length = 512) → (writeAll D fr l).2 = 0 ∧ Live (writeAll D fr l).1 n
 | [], D, fr, h, _, _, _ => live_flush h
 | b :: t, D, fr, h, h0, h1, hb => by
   rw [List.length_cons] at h1
   obtain ⟨e, h2⟩ := live_write h h0 (by omega) (hb b (by simp))
   rw [writeAll, if_pos e]
   exact live_all t h2 (by omega) (by omega) (fun x hx => hb x (by simp [hx]))
theorem part_len {p : Pg} {b : BS} {k : Int} {i : Nat} : (partPg p b k i).b.length ≤ 488 := by
 unfold partPg
 simp only [List.length_take]
 omega
theorem split_len {p : Pg} {b s : BS} (h : s ∈ (splitL p b).map putPg) : s.length = 512 := by
 obtain ⟨q, hq, rfl⟩ := List.mem_map.1 h
 unfold splitL at hq
 obtain ⟨i, _, rfl⟩ := List.mem_map.1 hq
 exact putPg_len part_len
theorem get_new {n i : Nat} (h : i < n) : (DW.new n).get i = zeros := by
 unfold DW.get DW.new
 simp [List.getD_eq_getElem?_getD, List.getElem?_replicate, h]
theorem sec_new (n : Nat) : secL (DW.new n) n = List.replicate n zeros := by
 unfold secL
 rw [List.eq_replicate_iff]
 refine ⟨by simp, fun b hb => ?_⟩
 obtain ⟨i, hi, rfl⟩ := List.mem_map.1 hb
 exact get_new (List.mem_range.1 hi)
theorem mark_zeros : ∀ n : Nat, markL (List.replicate n zeros) = 0
 | 0 => rfl
 | n + 1 => by
   have := mark_zeros n
   unfold markL at this ⊢
   rw [List.replicate_succ, List.foldl_cons, getPg_zeros]
   exact this
theorem load_zeros : ∀ n : Nat, loadL (List.replicate n zeros) = none
 | 0 => rfl
 | n + 1 => by
   unfold loadL
   rw [List.replicate_succ, pagesL, getPg_zeros]
theorem part_zeros (p : Plt) (n : Nat) (g : Int) : ∃ k, partL p (List.replicate n zeros) g = List.replicate k zeros := by
 unfold partL
 rw [List.take_replicate, List.drop_replicate]
 exact ⟨_, rfl⟩
theorem fresh_zeros (p : Plt) (n : Nat) : freshB p (List.replicate n zeros) = true := by
 unfold freshB
 rw [List.take_replicate, List.drop_replicate, List.all_eq_true]
 intro x hx
 rcases List.mem_append.1 hx with hx | hx
 all_goals
   rw [List.mem_replicate] at hx
   rw [hx.2]
   exact blank_zeros
/-- A new disk's log. -/
theorem open_new : ∃ D, Live D 60 ∧ walOpen (DW.new 60) 60 = ⟨⟨⟨15, 30, 30⟩, 1, 1, 0, false⟩, D, [], [], 0⟩ := by
 have hp : plotM ((60 : Nat) : Int) = ⟨15, 30, 30⟩ := by decide
 obtain ⟨k0, e0⟩ := part_zeros ⟨15, 30, 30⟩ 60 0
 obtain ⟨k1, e1⟩ := part_zeros ⟨15, 30, 30⟩ 60 1
 have hw := live_all (n := 60) (sectL ⟨1, []⟩ 1) (D := DW.new 60) (fr := slotFr ⟨15, 30, 30⟩ 1) (live_new 60) (by decide) (by decide) (fun b hb => split_len hb)
 have ht : WS.turn ⟨⟨15, 30, 30⟩, 0, 1, 0, false⟩ (DW.new 60) [] = (⟨⟨15, 30, 30⟩, 1, 1, 0, false⟩, (writeAll (DW.new 60) (slotFr ⟨15, 30, 30⟩ 1) (sectL ⟨1, []⟩ 1)).1, 0) := by
   unfold WS.turn
   rw [if_neg (by decide), if_neg (by decide), if_neg (by decide), if_neg (by decide)]
   exact if_pos hw.1
 refine ⟨_, hw.2, ?_⟩
 obtain ⟨Z, hZ⟩ : ∃ Z, Z = writeAll (DW.new 60) (slotFr ⟨15, 30, 30⟩ 1) (sectL ⟨1, []⟩ 1) := ⟨_, rfl⟩
 rw [← hZ] at ht ⊢
 have hd : (DW.new 60).dead = false := rfl
 obtain ⟨N, hN⟩ : ∃ N, N = DW.new 60 := ⟨_, rfl⟩
 have hs := sec_new 60
 rw [← hN] at ht hd hs ⊢
 unfold walOpen
 rw [if_neg (by decide), if_neg (by rw [hd]; decide), hs]
 simp only [hp]
 rw [mark_zeros, if_neg (by decide)]
 unfold betterL
 rw [e0, e1, load_zeros, load_zeros]
 simp only
 rw [if_pos (fresh_zeros _ _), show ((0 : Int) + 1) = 1 from rfl, ht]
 rfl
theorem store_new : ∃ D, Live D 60 ∧ storeOpen (DW.new 60) 60 = ⟨⟨⟨15, 30, 30⟩, 1, 1, 0, false⟩, st0, D, 0⟩ := by
 obtain ⟨D, h, e⟩ := open_new
 refine ⟨D, h, ?_⟩
 unfold storeOpen
 rw [e]
 rfl
theorem do_new {V : WS} {s s' : St} {l : List Chg} {D : DW} {k : Nat} (h : Live D 60) (hp : V.p = ⟨15, 30, 30⟩) (hb : V.broken = false) (h0 : 0 ≤ V.next) (h1 : V.next + k ≤ 30) (hc : chgsE l = 0) (ha : applyE s l = 0) (hs : applyS s l = s') (he : splitE (logP V) (chgsBs l) = 0) (hk : (splitL (logP V) (chgsBs l)).length = k) : ∃ D', Live D' 60 ∧ V.doS s D l = ({ V with next := V.next + k }, s', D', 0) := by
 have hw := live_all (n := 60) ((splitL (logP V) (chgsBs l)).map putPg) (D := D) (fr := V.p.fr + V.next) h (by rw [hp]; show 0 ≤ 30 + V.next; omega) (by rw [hp, List.length_map, hk]; show 30 + V.next + (k : Int) ≤ (60 : Nat); omega) (fun b hb => split_len hb)
 have hm : V.commit D (chgsBs l) = ({ V with next := V.next + k }, (writeAll D (V.p.fr + V.next) ((splitL (logP V) (chgsBs l)).map putPg)).1, 0) := by
   unfold WS.commit
   rw [if_neg (by rw [hb]; decide), if_neg (not_not_intro he), if_neg (by rw [hk, hp]; show ¬ (30 - V.next < (k : Int)); omega)]
   simp only
   rw [if_pos hw.1, hk]
 refine ⟨_, hw.2, ?_⟩
 unfold WS.doS
 rw [if_neg (by rw [hb]; decide), if_neg (not_not_intro hc), if_neg (not_not_intro ha), hm]
 simp only
 rw [if_neg (by decide), if_pos trivial, hs]
/-- The changes of a node that wakes: its start, and that it tells of itself. -/
def chgBoot (n : Int) : List Chg := [⟨3, lsa0, n, 0⟩]
def chgTell : List Chg := [⟨2, lsa0, 8, 0⟩, ⟨1, ⟨2, 1, []⟩, 0, 0⟩]
theorem boot_new {D : DW} (h : Live D 60) : ∃ D', Live D' 60 ∧ WS.doS ⟨⟨15, 30, 30⟩, 1, 1, 0, false⟩ st0 D (chgBoot 1) = (⟨⟨15, 30, 30⟩, 1, 1, 1, false⟩, ⟨[], 0, 1, []⟩, D', 0) :=
 do_new (k := 1) h rfl rfl (by decide) (by decide) (by decide) (by decide) rfl (by decide +kernel) (by decide +kernel)
theorem tell_new {D : DW} (h : Live D 60) : ∃ D', Live D' 60 ∧ WS.doS ⟨⟨15, 30, 30⟩, 1, 1, 1, false⟩ ⟨[], 0, 1, []⟩ D chgTell = (⟨⟨15, 30, 30⟩, 1, 1, 2, false⟩, ⟨[⟨2, 1, []⟩], 8, 1, []⟩, D', 0) :=
 do_new (k := 1) h rfl rfl (by decide) (by decide) (by decide) (by decide) rfl (by decide +kernel) (by decide +kernel)
end A
end Go.Proofs.YthkgdhamnpiagaaGreat
namespace Go.Proofs.YthkgdhamnpiagaaGreat
namespace A
theorem eq_40 : eqType Tryz.prog 40 = some [(0, .i), (1, .i)] := by kernel_rfl
theorem sl_72 : isSl Tryz.prog 72 = true := by kernel_rfl
theorem st_98 : structPlaces Tryz.prog 98 = some [(0, 1), (1, 1), (2, 1), (3, 1), (4, 1)] := by kernel_rfl
theorem ze_98 : zeroOf Tryz.prog 98 = some (.agg #[.int .i64 0, .map none, .map none, .int .i64 0, .bool false]) := by kernel_rfl
/- disk.New -/
set_option maxRecDepth 100000 in
set_option maxHeartbeats 400000 in
theorem disk_New0 (n : Int) : Triple Tryz.prog 8 [.int n] [] (fun q h' => (¬ (1 ≤ n ∧ n ≤ 1024) ∧ q = .tup [.v (.pointer none), .int 1] ∧ h' = []) ∨ ((1 ≤ n ∧ n ≤ 1024) ∧ ∃ db bs bw, q = .tup [.v (.pointer (some ⟨db, 0, none⟩)), .int 0] ∧ h' = [.box db [.int n, .v (.map (some bs)), .v (.map (some bw)), .int (-1), .v (.bool false)], .map bs [], .map bw []])) := by
 refine triple_of Tryz.func8 rfl (by kernel_rfl) rfl (by simp) ?_
 refine aSeq ?_
 refine aReg ?_
 refine sp pMa ?_
 refine sp pMa ?_
 refine oNil ?_
 refine aSeq ?_
 refine aSeq ?_
 refine aReg ?_
 refine sp pM ?_
 refine sp pB ?_
 refine sp pM ?_
 refine oSplitDec 6 rfl (fun c6 => ?_) (fun c6 => ?_)
 ·skip
  refine gf ?_
  refine gf ?_
  refine sp pK ?_
  refine oNil ?_
  refine aCondT rfl ?_
  refine aSeq ?_
  refine aReg ?_
  refine sp pMa ?_
  refine sp pMa ?_
  refine oNil ?_
  refine aRet ?_
  exact ⟨_, [], _, rfl, .nil, .inl ⟨by omega, rfl, rfl⟩⟩
 ·skip
  refine gp pM ?_
  refine gp pB ?_
  refine sp pK ?_
  refine oNil ?_
  refine aCondDec rfl (fun c9 => ?_) (fun c9 => ?_)
  ·skip
   refine aSeq ?_
   refine aReg ?_
   refine sp pMa ?_
   refine sp pMa ?_
   refine oNil ?_
   refine aRet ?_
   exact ⟨_, [], _, rfl, .nil, .inl ⟨by omega, rfl, rfl⟩⟩
  ·skip
   refine aSkip ?_
   refine aSeq ?_
   refine aReg ?_
   refine sp pM ?_
   refine sq ?_
   refine qMakeMap rfl rfl (by decide) (fun b11 => ?_)
   refine sq ?_
   refine qMakeMap rfl rfl (by decide) (fun b12 => ?_)
   refine sp (pBuild rfl st_98 ze_98 rfl rfl rfl rfl) ?_
   refine sq ?_
   refine qBox rfl rfl (by decide) rfl rfl (fun b14 => ?_)
   refine sp pMa ?_
   refine sp pMa ?_
   refine oNil ?_
   refine aRet ?_
   exact ⟨_, [_, _, _], [], rfl, .cons .hd (.cons (.tl .hd) (.cons .hd .nil)), .inr ⟨by omega, b14, b11, b12, rfl, rfl⟩⟩
theorem disk_New (n : Nat) (h1 : 1 ≤ n) (h2 : n ≤ 1024) : Triple Tryz.prog 8 [.int n] [] (fun q h' => ∃ db bs bw, q = .tup [.v (.pointer (some ⟨db, 0, none⟩)), .int 0] ∧ h' = [.box db [.int n, .v (.map (some bs)), .v (.map (some bw)), .int (-1), .v (.bool false)], .map bs [], .map bw []]) :=
 (disk_New0 n).mono fun q h' hq => by
   rcases hq with ⟨h, _⟩ | ⟨_, h⟩
   ·omega
   ·exact h
/- waymarkref09.All -/
set_option maxRecDepth 100000 in
set_option maxHeartbeats 400000 in
theorem ref09_All0  : Triple Tryz.prog 63 [.sl 3 ([].map lsaC), .sl 3 ([].map lsaC)] [] (Is (.v (.bool true)) []) := by
 refine triple_of Tryz.func63 rfl (by kernel_rfl) rfl (by simp) ?_
 refine aSeq ?_
 refine aReg ?_
 refine sp pMa ?_
 refine oNil ?_
 refine aSeq ?_
 refine aSeq ?_
 refine aReg ?_
 refine sp pM ?_
 refine sp (by first | exact pLm sl_32 | exact pLs sl_32) ?_
 refine sp pM ?_
 refine sp (by first | exact pLm sl_32 | exact pLs sl_32) ?_
 refine sp pB ?_
 refine oNil ?_
 refine aCondF rfl ?_
 refine aSkip ?_
 refine aSeq ?_
 refine aSeq ?_
 refine aReg ?_
 refine sp pMa ?_
 refine oNil ?_
 refine aBlock ?_
 refine loopF (α := Nat) (kept := [(0, _), (1, _)]) (fun i => i = 0) (fun i => [(5, .int i)]) (fun i => []) (fun i => i) 0 ?_ ⟨gInt rfl (by first | rfl | omega | simp), rfl, rfl, trivial⟩ (by repeat constructor) ?_
 ·skip
  rfl
 ·rintro i rfl
  refine aSeq ?_
  refine aSeq ?_
  refine aReg ?_
  refine sp pM ?_
  refine sp pM ?_
  refine sp (by first | exact pLm sl_32 | exact pLs sl_32) ?_
  refine sp pB ?_
  refine oNil ?_
  refine aCondF rfl ?_
  refine aExit rfl ?_
  refine aSeq ?_
  refine aReg ?_
  refine sp pMa ?_
  refine oNil ?_
  refine aRet ?_
  refine finIs rfl ?_
  rfl
/- waymarkref11.Same -/
set_option maxRecDepth 100000 in
set_option maxHeartbeats 400000 in
theorem ref11_Same0  : Triple Tryz.prog 25 [.agg (stC st0), .agg (stC st0)] [] (Is (.v (.bool true)) []) := by
 refine triple_of Tryz.func25 rfl (by kernel_rfl) rfl (by simp) ?_
 refine aSeq ?_
 refine aReg ?_
 refine sq ?_
 refine qBox rfl rfl (by decide) rfl rfl (fun b2 => ?_)
 refine sq ?_
 refine qBox rfl rfl (by decide) rfl rfl (fun b3 => ?_)
 refine sp pMa ?_
 refine oNil ?_
 refine aSeq ?_
 refine aSeq ?_
 refine aReg ?_
 refine sp (pFb fd_35_1) ?_
 refine sr (rB1 ty_3) ?_
 refine sp (pFb fd_35_1) ?_
 refine sr (rB1 ty_3) ?_
 refine sp pB ?_
 refine sp pM ?_
 refine gp (pFb fd_35_2) ?_
 refine gr (rB1 ty_3) ?_
 refine gp (pFb fd_35_2) ?_
 refine gr (rB1 ty_3) ?_
 refine gp pB ?_
 refine sp pK ?_
 refine sp pM ?_
 refine gp (pFb fd_35_0) ?_
 refine gr (rB1 ty_32) ?_
 refine gp (pFb fd_35_0) ?_
 refine gr (rB1 ty_32) ?_
 refine ga ?_
 refine (cv rfl rfl rfl (lents_refl _) ref09_All0 ?_).op
 refine gp pNo ?_
 refine sp pK ?_
 refine sp pM ?_
 refine gp (pFb fd_35_3) ?_
 refine gr (rB1 ty_33) ?_
 refine gp (by first | exact pLm sl_33 | exact pLs sl_33 | exact pLv sl_33) ?_
 refine gp (pFb fd_35_3) ?_
 refine gr (rB1 ty_33) ?_
 refine gp (by first | exact pLm sl_33 | exact pLs sl_33 | exact pLv sl_33) ?_
 refine gp pB ?_
 refine sp pK ?_
 refine oNil ?_
 refine aCondF rfl ?_
 refine aSkip ?_
 refine aSeq ?_
 refine aSeq ?_
 refine aReg ?_
 refine sp pMa ?_
 refine oNil ?_
 refine aBlock ?_
 refine loopF (α := Nat) (kept := [(2, _), (3, _)]) (fun i => i = 0) (fun i => [(5, .int i)]) (fun i => []) (fun i => i) 0 ?_ ⟨gInt rfl (by first | rfl | omega | simp), rfl, rfl, trivial⟩ (by repeat constructor) ?_
 ·skip
  rfl
 ·rintro i rfl
  refine aSeq ?_
  refine aSeq ?_
  refine aReg ?_
  refine sp pM ?_
  refine sp (pFb fd_35_3) ?_
  refine sr (rB1 ty_33) ?_
  refine sp (by first | exact pLm sl_33 | exact pLs sl_33 | exact pLv sl_33) ?_
  refine sp pB ?_
  refine oNil ?_
  refine aCondF rfl ?_
  refine aExit rfl ?_
  refine aSeq ?_
  refine aReg ?_
  refine sp pMa ?_
  refine oNil ?_
  refine aRet ?_
  refine finIs rfl ?_
  rfl
theorem zeros_ok : BOk zeros := fun x hx => by
 have := (List.mem_replicate.1 hx).2
 omega
theorem sec_ok : ∀ s ∈ secL (DW.new 60) 60, BOk s := fun s hs => by
 rw [sec_new] at hs
 rw [(List.mem_replicate.1 hs).2]
 exact zeros_ok
/-- A node that starts on a new disk. -/
def nw0 : WS := ⟨⟨15, 30, 30⟩, 1, 1, 1, false⟩
def ns0 : St := ⟨[], 0, 1, []⟩
theorem start_new {id : Int} (h : inr id 1 64 = true) : ∃ D, Live D 60 ∧ nodeStart id (DW.new 60) 60 = (nw0, ns0, D, 0) := by
 obtain ⟨D, hl, he⟩ := store_new
 obtain ⟨D2, hl2, he2⟩ := boot_new hl
 refine ⟨D2, hl2, ?_⟩
 unfold nodeStart
 rw [if_neg (by rw [h]; decide), he]
 simp only
 rw [if_neg (by decide), if_neg (by decide)]
 exact he2
theorem start_bad {id : Int} (h : inr id 1 64 = false) : nodeStart id (DW.new 60) 60 = (wal0, st0, DW.new 60, 1) := by
 unfold nodeStart
 rw [if_pos h]
theorem plt_ok : PltOk (⟨15, 30, 30⟩ : Plt) 60 := by
 constructor <;> (first | rfl | decide | (constructor <;> decide))
theorem nw_ok {x : Int} (h0 : 0 ≤ x) (h1 : x ≤ 30) : WOk ⟨⟨15, 30, 30⟩, 1, 1, x, false⟩ 60 := ⟨plt_ok, by show (0 : Int) ≤ 1; decide, by show (1 : Int) ≤ 2147483648; decide, h0, h1⟩
theorem node_StartNew {id : Int} {db bs bw : Nat} : Triple Tryz.prog 9 [.int id, .v (.pointer (some ⟨db, 0, none⟩))] [.box db [.int 60, .v (.map (some bs)), .v (.map (some bw)), .int (DW.new 60).armed, .v (.bool (DW.new 60).dead)], .map bs (kvA []), .map bw (kvA [])] (fun q h' => (inr id 1 64 = true ∧ ∃ D S' W' nb tb wb mb ob, Live D 60 ∧ Rel 60 S' W' D ∧ q = .tup [.v (.pointer (some ⟨nb, 0, none⟩)), .int 0] ∧ h' = .box nb (ndC tb mb ob (startNd id 0)) :: .map mb [] :: .box ob onC :: .box tb (.v (.pointer (some ⟨wb, 0, none⟩)) :: stC ns0) :: .box wb (wsC db nw0) :: [.box db [.int 60, .v (.map (some bs)), .v (.map (some bw)), .int D.armed, .v (.bool D.dead)], .map bs (kvA S'), .map bw (kvA W')]) ∨ (inr id 1 64 = false ∧ q = .tup [.v (.pointer none), .int 1])) := by
 obtain ⟨Dw, hlw, hew⟩ := open_new
 obtain ⟨Ds, hls, hes⟩ := store_new
 refine (node_Start (id := id) (db := db) (bs := bs) (bw := bw) (S := []) (W := []) (D := DW.new 60) (m := 60) (rel_new (by decide) (by decide)) sec_ok (by rw [hew]; exact Nat.zero_le _) (by rw [hew]; exact fun x hx => by simp at hx) (by rw [hew]; exact Nat.zero_le _) (by rw [hew]; exact fun x hx => by simp at hx) (by rw [hew]; exact fun x hx => by simp at hx) (fun _ => by rw [hes]; exact ⟨nw_ok (by decide) (by decide), Nat.zero_le _, Nat.zero_le _, fun x hx => by simp [st0] at hx, by show (-4611686018427387904 : Int) ≤ 0; decide⟩)).mono ?_
 rintro q h' ⟨v, S', W', r, rfl, hc⟩
 cases hi : inr id 1 64 with
 | false =>
   rw [start_bad hi] at hc ⊢
   rcases hc with ⟨h, _⟩ | ⟨_, rfl, _⟩
   ·exact absurd h (by decide)
   ·exact .inr ⟨rfl, rfl⟩
 | true =>
   obtain ⟨D, hl, he⟩ := start_new hi
   rw [he] at hc r ⊢
   rcases hc with ⟨_, nb, tb, wb, mb, ob, rfl, rfl⟩ | ⟨h, _⟩
   ·exact .inl ⟨rfl, D, S', W', nb, tb, wb, mb, ob, hl, r, rfl, by rw [hes]; rfl⟩
   ·exact absurd rfl h
theorem tell_wake {D : DW} (h : Live D 60) : ∃ D', Live D' 60 ∧ tellN nw0 ns0 D (startNd 2 0) = (⟨⟨15, 30, 30⟩, 1, 1, 2, false⟩, ⟨[⟨2, 1, []⟩], 8, 1, []⟩, D', { (startNd 2 0).kept 0 with own := ⟨2, 8⟩ }, 0) := by
 obtain ⟨D', hl, he⟩ := tell_new h
 refine ⟨D', hl, ?_⟩
 have hp : planL ns0.db (startNd 2 0).id (startNd 2 0).t (startNd 2 0).own = (chgTell, ⟨2, 8⟩, 0) := by kernel_rfl
 unfold tellN
 rw [if_neg (by decide), hp]
 show (if (0 : Int) ≠ 0 then _ else _) = _
 rw [if_neg (by decide)]
 show (if (WS.doS nw0 ns0 D chgTell).2.2.2 ≠ 0 then _ else _) = _
 rw [show WS.doS nw0 ns0 D chgTell = _ from he, if_neg (fun h => h rfl)]
/- waymarklaw28.awake -/
set_option maxRecDepth 100000 in
set_option maxHeartbeats 4000000 in
theorem law28_awake  : Triple Tryz.prog 7 [] [] (Is (.v (.bool true)) []) := by
 refine triple_of Tryz.func7 rfl (by kernel_rfl) rfl (by simp) ?_
 refine aSeq ?_
 refine aReg ?_
 refine sp pMa ?_
 refine oNil ?_
 refine aSeq ?_
 refine aReg ?_
 refine sa ?_
 refine ca rfl rfl rfl (disk_New 60 (by decide) (by decide)) ?_
 rintro _ _ ⟨db, bs, bw, rfl, rfl⟩
 refine sp pM ?_
 refine sp pX ?_
 refine sp pX ?_
 refine sp pMa ?_
 refine sp pMa ?_
 refine oNil ?_
 refine aSeq ?_
 refine aSeq ?_
 refine aReg ?_
 refine sp pM ?_
 refine sp pB ?_
 refine sp pM ?_
 refine gp pM ?_
 refine gp (by first | exact pPtrNil rfl (.inl rfl) rfl pt_25 rfl rfl | exact pSpNil rfl (.inl rfl) rfl pt_25 rfl) ?_
 refine sp pK ?_
 refine oNil ?_
 refine aCondF rfl ?_
 refine aSkip ?_
 refine aSeq ?_
 refine aReg ?_
 refine sp pM ?_
 refine sa ?_
 refine ca rfl rfl rfl (node_StartNew (id := 2) (db := db) (bs := bs) (bw := bw)) ?_
 rintro _ _ (⟨_, D, S1, W1, nb, tb, wb, mb, ob, hl, r, rfl, rfl⟩ | ⟨h, _⟩)
 rotate_left
 ·exact absurd h (by decide)
 refine sp pM ?_
 refine sp pX ?_
 refine sp pX ?_
 refine sp pMa ?_
 refine sp pMa ?_
 refine oNil ?_
 refine aSeq ?_
 refine aSeq ?_
 refine aReg ?_
 refine sp pM ?_
 refine sp pB ?_
 refine sp pM ?_
 refine gp pM ?_
 refine gp (by first | exact pPtrNil rfl (.inl rfl) rfl pt_29 rfl rfl | exact pSpNil rfl (.inl rfl) rfl pt_29 rfl) ?_
 refine sp pK ?_
 refine oNil ?_
 refine aCondF rfl ?_
 refine aSkip ?_
 refine aSeq ?_
 refine aReg ?_
 refine sp pM ?_
 refine sa ?_
 refine ca rfl rfl rfl (node_Tick0 (nb := nb) (tb := tb) (wb := wb) (mb := mb) (ob := ob) (db := db) (bs := bs) (bw := bw) (m := 60) (oc := onC) (n := startNd 2 0) (V := nw0) (s := ns0) r (nw_ok (by decide) (by decide)) (by decide) (by decide) (fun x hx => by simp [ns0] at hx) rfl rfl (by decide)) ?_
 obtain ⟨D2, hl2, hT⟩ := tell_wake hl
 rw [hT]
 rintro _ _ ⟨rfl, S2, W2, ob2, oc2, r2, rfl⟩
 refine sp pM ?_
 refine sp pX ?_
 refine sp pX ?_
 refine sp pMa ?_
 refine sp pMa ?_
 refine oNil ?_
 refine aSeq ?_
 refine aReg ?_
 refine sp pM ?_
 refine sa ?_
 refine cai rfl rfl rfl (node_State (nb := nb) (tb := tb) (wb := wb) (mb := mb) (ob := ob2) (n := { (startNd 2 0).kept 0 with own := ⟨2, 8⟩ }) (s := ⟨[⟨2, 1, []⟩], 8, 1, []⟩) (by decide) (by decide) (fun x hx => by simp at hx; subst hx; decide)) ?_
 refine sq ?_
 refine qAlloc rfl rfl (by decide) ze_35 rfl (fun b7 => ?_)
 refine sa ?_
 refine oStW rfl rfl rfl rfl (by repeat constructor) ty_35 ?_
 refine oNil ?_
 refine aSeq ?_
 refine aReg ?_
 refine sp pM ?_
 refine sp pB ?_
 refine sp pM ?_
 refine gp pM ?_
 refine gp (by first | exact pLm sl_72 | exact pLs sl_72 | exact pLv sl_72) ?_
 refine gp pB ?_
 refine sp pK ?_
 refine sp pM ?_
 refine gp (pFb fd_35_2) ?_
 refine gr (rB1 ty_3) ?_
 refine gp pB ?_
 refine sp pK ?_
 refine sp pM ?_
 refine gp (pFb fd_35_0) ?_
 refine gr (rB1 ty_32) ?_
 refine gp (by first | exact pLm sl_32 | exact pLs sl_32 | exact pLv sl_32) ?_
 refine gp pB ?_
 refine sp pK ?_
 refine sp pM ?_
 refine gp (pFb fd_35_0) ?_
 refine gr (rB1 ty_32) ?_
 refine gp (pIdxS rfl rfl rfl es_32 (by decide) (rfl : _ = some (lsaC ⟨2, 1, []⟩))) ?_
 refine gp (by first | exact pFb fd_55_1 | exact pFs fd_55_1) ?_
 refine gr (by first | exact rS1 ty_3 | exact rB1 ty_3 | exact rAr ty_3 | exact rArL ty_3 | exact rArR2 ty_3) ?_
 refine gp pB ?_
 refine sp pK ?_
 refine sp pM ?_
 refine gp pM ?_
 refine ga ?_
 refine cai rfl rfl rfl (node_Space (nb := nb) (tb := tb) (mb := mb) (ob := ob2) (n := { (startNd 2 0).kept 0 with own := ⟨2, 8⟩ })) ?_
 refine gp (pBuild rfl st_40 ze_40 rfl rfl rfl rfl) ?_
 refine gp (pEqA rfl (.inl rfl) rfl rfl eq_40 rfl rfl) ?_
 refine sp pK ?_
 refine sp pMa ?_
 refine oNil ?_
 refine aRet ?_
 refine finIs rfl ?_
 rfl
end A
end Go.Proofs.YthkgdhamnpiagaaGreat
namespace Go.Proofs.YthkgdhamnpiagaaGreat
namespace A
theorem bo_4 : isBoolT Tryz.prog 4 = true := by kernel_rfl
theorem eq_42 : eqType Tryz.prog 42 = some [(0, .i), (1, .i)] := by kernel_rfl
theorem inr_yes {id : Int} (h : inr id 1 64 = true) : 1 ≤ id ∧ id ≤ 64 := by
 simp only [inr, Bool.and_eq_true, decide_eq_true_eq] at h
 exact h
theorem inr_not {id : Int} (h : inr id 1 64 = false) : ¬ (1 ≤ id ∧ id ≤ 64) := fun h2 => by
 have : inr id 1 64 = true := by simp only [inr, Bool.and_eq_true, decide_eq_true_eq]; exact h2
 rw [h] at this
 cases this
theorem node_StartYes {id : Int} {db bs bw : Nat} (h : inr id 1 64 = true) : Triple Tryz.prog 9 [.int id, .v (.pointer (some ⟨db, 0, none⟩))] [.box db [.int 60, .v (.map (some bs)), .v (.map (some bw)), .int (DW.new 60).armed, .v (.bool (DW.new 60).dead)], .map bs (kvA []), .map bw (kvA [])] (fun q h' => ∃ nb, q = .tup [.v (.pointer (some ⟨nb, 0, none⟩)), .int 0]) :=
 (node_StartNew (id := id) (db := db) (bs := bs) (bw := bw)).mono fun q h' hq => by
   rcases hq with ⟨_, D, S', W', nb, tb, wb, mb, ob, _, _, rfl, _⟩ | ⟨h2, _⟩
   ·exact ⟨nb, rfl⟩
   ·rw [h] at h2; cases h2
theorem node_StartNo {id : Int} {db bs bw : Nat} (h : inr id 1 64 = false) : Triple Tryz.prog 9 [.int id, .v (.pointer (some ⟨db, 0, none⟩))] [.box db [.int 60, .v (.map (some bs)), .v (.map (some bw)), .int (DW.new 60).armed, .v (.bool (DW.new 60).dead)], .map bs (kvA []), .map bw (kvA [])] (fun q h' => q = .tup [.v (.pointer none), .int 1]) :=
 (node_StartNew (id := id) (db := db) (bs := bs) (bw := bw)).mono fun q h' hq => by
   rcases hq with ⟨h2, _⟩ | ⟨_, rfl⟩
   ·rw [h] at h2; cases h2
   ·rfl
/- waymarklaw28.NodeNobody -/
set_option maxRecDepth 100000 in
set_option maxHeartbeats 4000000 in
theorem law28_Nobody1 {id : Int} {b : BS} (hb : b.length ≤ 9223372036854775807) (hi : inr id 1 64 = true) : Triple Tryz.prog 5 [.int id, bsA b] [] (Is (.v (.bool true)) []) := by
 have hir := inr_yes hi
 refine triple_of Tryz.func5 rfl (by kernel_rfl) rfl (by simp) ?_
 refine aSeq ?_
 refine aReg ?_
 refine sp pMa ?_
 refine oNil ?_
 refine aSeq ?_
 refine aSeq ?_
 refine aReg ?_
 refine sp pM ?_
 refine sp (by first | exact pLm sl_50 | exact pLs sl_50 | exact pLv sl_50) ?_
 refine sp pB ?_
 refine oNil ?_
 refine aCondDec rfl (fun c18 => ?_) (fun c18 => ?_)
 ·skip
  refine aSeq ?_
  refine aReg ?_
  refine sq ?_
  refine cv rfl rfl rfl (lents_refl _) law28_awake ?_
  refine sp pMa ?_
  refine oNil ?_
  refine aRet ?_
  refine finIs rfl ?_
  rfl
 ·skip
  refine aSkip ?_
  refine aSeq ?_
  refine aReg ?_
  refine sa ?_
  refine ca rfl rfl rfl (disk_New 60 (by decide) (by decide)) ?_
  rintro _ _ ⟨db, bs, bw, rfl, rfl⟩
  refine sp pM ?_
  refine sp pX ?_
  refine sp pX ?_
  refine sp pMa ?_
  refine sp pMa ?_
  refine oNil ?_
  refine aSeq ?_
  refine aReg ?_
  refine sp pM ?_
  refine sp pM ?_
  refine sa ?_
  refine ca rfl rfl rfl (node_StartYes (id := id) (db := db) (bs := bs) (bw := bw) hi) ?_
  rintro _ _ ⟨nb, rfl⟩
  refine oWeak (weak_heap (h' := []) .nil) ?_
  refine sp pM ?_
  refine sp pX ?_
  refine sp pX ?_
  refine sp pMa ?_
  refine sp pMa ?_
  refine oNil ?_
  refine aSeq ?_
  refine aReg ?_
  refine sp pM ?_
  refine sp (pBl (by exact pB) (show _ = true from by simp; omega)) ?_
  refine sp pM ?_
  refine gp pM ?_
  refine gp (pBl (by exact pB) (show _ = true from by simp; omega)) ?_
  refine sp pK ?_
  refine sp pMa ?_
  refine oNil ?_
  refine aSeq ?_
  refine aSeq ?_
  refine aReg ?_
  refine sp pM ?_
  refine sp pB ?_
  refine sp pM ?_
  refine sp (pEqB rfl (.inr rfl) rfl rfl bo_4 rfl) ?_
  refine sp pM ?_
  refine gp pM ?_
  refine gp (by first | exact pPtrNil rfl (.inr rfl) rfl pt_29 rfl rfl | exact pSpNil rfl (.inr rfl) rfl pt_29 rfl) ?_
  refine gp pM ?_
  refine gp (pEqB rfl (.inr rfl) rfl rfl bo_4 rfl) ?_
  refine sp pK ?_
  refine sp pM ?_
  refine gp pM ?_
  refine gp pNo ?_
  refine gp pM ?_
  refine gf ?_
  refine gf ?_
  refine gp pK ?_
  refine sp pK ?_
  refine oNil ?_
  refine aCondF rfl ?_
  refine aSkip ?_
  refine aSeq ?_
  refine aSeq ?_
  refine aReg ?_
  refine sp pMa ?_
  refine oNil ?_
  refine aBlock ?_
  refine loopF (α := Nat) (kept := [(1, _)]) (fun k => k ≤ 2) (fun k => [(10, .int k)]) (fun k => []) (fun k => 2 - k) 0 ?_ ⟨gInt rfl (by first | rfl | omega | simp), rfl, trivial⟩ (by repeat constructor) ?_
  ·skip
   decide
  ·rintro k hk
   refine aSeq ?_
   refine aSeq ?_
   refine aReg ?_
   refine sp pM ?_
   refine sp pB ?_
   refine oNil ?_
   refine aCondDec rfl (fun c55 => ?_) (fun c55 => ?_)
   ·skip
    refine aSkip ?_
    refine aSeq ?_
    refine aBlock ?_
    refine aSeq ?_
    refine aReg ?_
    refine sp pMa ?_
    refine oNil ?_
    refine aSeq ?_
    refine aSeq ?_
    refine aReg ?_
    refine sp pM ?_
    refine sp pB ?_
    refine oNil ?_
    refine aCondEq rfl (fun c59 => ?_) (fun c59 => ?_)
    ·skip
     refine aReg ?_
     refine sp (pBuild rfl st_90 ze_90 rfl rfl rfl rfl) ?_
     refine sq ?_
     refine qBox rfl rfl (by decide) rfl rfl (fun b61 => ?_)
     refine sp pMa ?_
     refine oNil ?_
     refine aSeq ?_
     refine aReg ?_
     refine sp pM ?_
     refine sa ?_
     first | refine cai rfl rfl rfl (node_TickZ (nb := b61)) ?_ | refine cai rfl rfl rfl (node_TickN) ?_
     refine sp pM ?_
     refine sp pX ?_
     refine sp pX ?_
     refine sp pMa ?_
     refine sp pMa ?_
     refine oNil ?_
     refine aSeq ?_
     refine aReg ?_
     refine sp pM ?_
     refine sp pM ?_
     refine sa ?_
     first | refine cai rfl rfl rfl (node_HearZ (nb := b61) (fr := 1) (b := b)) ?_ | refine cai rfl rfl rfl (node_HearN (fr := 1) (b := b)) ?_
     refine sp pM ?_
     refine sp pX ?_
     refine sp pX ?_
     refine sp pMa ?_
     refine sp pMa ?_
     refine oNil ?_
     refine aSeq ?_
     refine aReg ?_
     refine sp pM ?_
     refine sp (by first | exact pLm sl_72 | exact pLs sl_72 | exact pLv sl_72) ?_
     refine sp pB ?_
     refine sp pM ?_
     refine gp pM ?_
     refine gp pB ?_
     refine sp pK ?_
     refine sp pM ?_
     refine gp pM ?_
     refine gp (by first | exact pLm sl_72 | exact pLs sl_72 | exact pLv sl_72) ?_
     refine gp pB ?_
     refine sp pK ?_
     refine sp pM ?_
     refine gp pM ?_
     refine gp pB ?_
     refine sp pK ?_
     refine sp pM ?_
     refine gp pM ?_
     refine ga ?_
     first | refine cai rfl rfl rfl (node_PortZ (nb := b61) (fr := 1) (c := 1)) ?_ | refine cai rfl rfl rfl (node_PortN (fr := 1) (c := 1)) ?_
     refine gp pB ?_
     refine sp pK ?_
     refine sp pM ?_
     refine gp pM ?_
     refine ga ?_
     first | refine cai rfl rfl rfl (node_StoppedZ (nb := b61)) ?_ | refine cai rfl rfl rfl (node_StoppedN) ?_
     refine gp pNo ?_
     refine sp pK ?_
     refine sp pM ?_
     refine gp pM ?_
     refine ga ?_
     first | refine cai rfl rfl rfl (node_TableZ (nb := b61)) ?_ | refine cai rfl rfl rfl (node_TableN) ?_
     refine gp (by first | exact pLm sl_36 | exact pLs sl_36 | exact pLv sl_36) ?_
     refine gp pB ?_
     refine sp pK ?_
     refine sp pM ?_
     refine gp pM ?_
     refine ga ?_
     first | refine cai rfl rfl rfl (node_OwesZ (nb := b61) (k := 1)) ?_ | refine cai rfl rfl rfl (node_OwesN (k := 1)) ?_
     refine gp (by first | exact pLm sl_37 | exact pLs sl_37 | exact pLv sl_37) ?_
     refine gp pB ?_
     refine sp pK ?_
     refine sp pM ?_
     refine gp pM ?_
     refine ga ?_
     first | refine cai rfl rfl rfl (node_RoutesZ (nb := b61)) ?_ | refine cai rfl rfl rfl (node_RoutesN) ?_
     refine gp (by first | exact pLm sl_83 | exact pLs sl_83 | exact pLv sl_83) ?_
     refine gp pB ?_
     refine sp pK ?_
     refine sp pM ?_
     refine gp pM ?_
     refine ga ?_
     first | refine cai rfl rfl rfl (node_SpaceZ (nb := b61)) ?_ | refine cai rfl rfl rfl (node_SpaceN) ?_
     refine gp (pBuild rfl st_40 ze_40 rfl rfl rfl rfl) ?_
     refine gp (pEqA rfl (.inr rfl) rfl rfl eq_40 rfl rfl) ?_
     refine sp pK ?_
     refine sp pM ?_
     refine gp pM ?_
     refine ga ?_
     first | refine cai rfl rfl rfl (node_CountZ (nb := b61)) ?_ | refine cai rfl rfl rfl (node_CountN) ?_
     refine gp (pBuild rfl st_42 ze_42 rfl rfl rfl rfl) ?_
     refine gp (pEqA rfl (.inr rfl) rfl rfl eq_42 rfl rfl) ?_
     refine sp pK ?_
     refine sp pM ?_
     refine gp pM ?_
     refine ga ?_
     first | refine cai rfl rfl rfl (node_StateZ (nb := b61)) ?_ | refine cai rfl rfl rfl (node_StateN) ?_
     refine gp (pBuild rfl st_35 ze_35 rfl rfl rfl rfl) ?_
     refine oWeak (weak_cast (k := 132) (b := .agg (stC st0)) rfl cast_st0) ?_
     refine ga ?_
     refine (cv rfl rfl rfl (lents_refl _) ref11_Same0 ?_).op
     refine gp pNo ?_
     refine sp pK ?_
     refine oNil ?_
     refine aCondF rfl ?_
     refine aSkip ?_
     refine aReg ?_
     refine sp pM ?_
     refine sp pAd ?_
     refine sp pMa ?_
     refine oNil ?_
     refine ⟨k + 1, ?_, by (try dsimp only); omega, ⟨gInt rfl (by first | rfl | omega | simp), rfl, trivial⟩, _, (by repeat constructor)⟩
     omega
    ·skip
     refine aSkip ?_
     refine aSeq ?_
     refine aReg ?_
     refine sp pM ?_
     refine sa ?_
     first | refine cai rfl rfl rfl (node_TickZ (nb := b61)) ?_ | refine cai rfl rfl rfl (node_TickN) ?_
     refine sp pM ?_
     refine sp pX ?_
     refine sp pX ?_
     refine sp pMa ?_
     refine sp pMa ?_
     refine oNil ?_
     refine aSeq ?_
     refine aReg ?_
     refine sp pM ?_
     refine sp pM ?_
     refine sa ?_
     first | refine cai rfl rfl rfl (node_HearZ (nb := b61) (fr := 1) (b := b)) ?_ | refine cai rfl rfl rfl (node_HearN (fr := 1) (b := b)) ?_
     refine sp pM ?_
     refine sp pX ?_
     refine sp pX ?_
     refine sp pMa ?_
     refine sp pMa ?_
     refine oNil ?_
     refine aSeq ?_
     refine aReg ?_
     refine sp pM ?_
     refine sp (by first | exact pLm sl_72 | exact pLs sl_72 | exact pLv sl_72) ?_
     refine sp pB ?_
     refine sp pM ?_
     refine gp pM ?_
     refine gp pB ?_
     refine sp pK ?_
     refine sp pM ?_
     refine gp pM ?_
     refine gp (by first | exact pLm sl_72 | exact pLs sl_72 | exact pLv sl_72) ?_
     refine gp pB ?_
     refine sp pK ?_
     refine sp pM ?_
     refine gp pM ?_
     refine gp pB ?_
     refine sp pK ?_
     refine sp pM ?_
     refine gp pM ?_
     refine ga ?_
     first | refine cai rfl rfl rfl (node_PortZ (nb := b61) (fr := 1) (c := 1)) ?_ | refine cai rfl rfl rfl (node_PortN (fr := 1) (c := 1)) ?_
     refine gp pB ?_
     refine sp pK ?_
     refine sp pM ?_
     refine gp pM ?_
     refine ga ?_
     first | refine cai rfl rfl rfl (node_StoppedZ (nb := b61)) ?_ | refine cai rfl rfl rfl (node_StoppedN) ?_
     refine gp pNo ?_
     refine sp pK ?_
     refine sp pM ?_
     refine gp pM ?_
     refine ga ?_
     first | refine cai rfl rfl rfl (node_TableZ (nb := b61)) ?_ | refine cai rfl rfl rfl (node_TableN) ?_
     refine gp (by first | exact pLm sl_36 | exact pLs sl_36 | exact pLv sl_36) ?_
     refine gp pB ?_
     refine sp pK ?_
     refine sp pM ?_
     refine gp pM ?_
     refine ga ?_
     first | refine cai rfl rfl rfl (node_OwesZ (nb := b61) (k := 1)) ?_ | refine cai rfl rfl rfl (node_OwesN (k := 1)) ?_
     refine gp (by first | exact pLm sl_37 | exact pLs sl_37 | exact pLv sl_37) ?_
     refine gp pB ?_
     refine sp pK ?_
     refine sp pM ?_
     refine gp pM ?_
     refine ga ?_
     first | refine cai rfl rfl rfl (node_RoutesZ (nb := b61)) ?_ | refine cai rfl rfl rfl (node_RoutesN) ?_
     refine gp (by first | exact pLm sl_83 | exact pLs sl_83 | exact pLv sl_83) ?_
     refine gp pB ?_
     refine sp pK ?_
     refine sp pM ?_
     refine gp pM ?_
     refine ga ?_
     first | refine cai rfl rfl rfl (node_SpaceZ (nb := b61)) ?_ | refine cai rfl rfl rfl (node_SpaceN) ?_
     refine gp (pBuild rfl st_40 ze_40 rfl rfl rfl rfl) ?_
     refine gp (pEqA rfl (.inr rfl) rfl rfl eq_40 rfl rfl) ?_
     refine sp pK ?_
     refine sp pM ?_
     refine gp pM ?_
     refine ga ?_
     first | refine cai rfl rfl rfl (node_CountZ (nb := b61)) ?_ | refine cai rfl rfl rfl (node_CountN) ?_
     refine gp (pBuild rfl st_42 ze_42 rfl rfl rfl rfl) ?_
     refine gp (pEqA rfl (.inr rfl) rfl rfl eq_42 rfl rfl) ?_
     refine sp pK ?_
     refine sp pM ?_
     refine gp pM ?_
     refine ga ?_
     first | refine cai rfl rfl rfl (node_StateZ (nb := b61)) ?_ | refine cai rfl rfl rfl (node_StateN) ?_
     refine gp (pBuild rfl st_35 ze_35 rfl rfl rfl rfl) ?_
     refine oWeak (weak_cast (k := 132) (b := .agg (stC st0)) rfl cast_st0) ?_
     refine ga ?_
     refine (cv rfl rfl rfl (lents_refl _) ref11_Same0 ?_).op
     refine gp pNo ?_
     refine sp pK ?_
     refine oNil ?_
     refine aCondF rfl ?_
     refine aSkip ?_
     refine aReg ?_
     refine sp pM ?_
     refine sp pAd ?_
     refine sp pMa ?_
     refine oNil ?_
     refine ⟨k + 1, ?_, by (try dsimp only); omega, ⟨gInt rfl (by first | rfl | omega | simp), rfl, trivial⟩, _, (by repeat constructor)⟩
     omega
   ·skip
    refine aExit rfl ?_
    refine aSeq ?_
    refine aReg ?_
    refine sq ?_
    refine cv rfl rfl rfl (lents_refl _) law28_awake ?_
    refine sp pMa ?_
    refine oNil ?_
    refine aRet ?_
    refine finIs rfl ?_
    rfl
/- waymarklaw28.NodeNobody -/
set_option maxRecDepth 100000 in
set_option maxHeartbeats 4000000 in
theorem law28_Nobody0 {id : Int} {b : BS} (hb : b.length ≤ 9223372036854775807) (hi : inr id 1 64 = false) : Triple Tryz.prog 5 [.int id, bsA b] [] (Is (.v (.bool true)) []) := by
 have hir := inr_not hi
 refine triple_of Tryz.func5 rfl (by kernel_rfl) rfl (by simp) ?_
 refine aSeq ?_
 refine aReg ?_
 refine sp pMa ?_
 refine oNil ?_
 refine aSeq ?_
 refine aSeq ?_
 refine aReg ?_
 refine sp pM ?_
 refine sp (by first | exact pLm sl_50 | exact pLs sl_50 | exact pLv sl_50) ?_
 refine sp pB ?_
 refine oNil ?_
 refine aCondDec rfl (fun c18 => ?_) (fun c18 => ?_)
 ·skip
  refine aSeq ?_
  refine aReg ?_
  refine sq ?_
  refine cv rfl rfl rfl (lents_refl _) law28_awake ?_
  refine sp pMa ?_
  refine oNil ?_
  refine aRet ?_
  refine finIs rfl ?_
  rfl
 ·skip
  refine aSkip ?_
  refine aSeq ?_
  refine aReg ?_
  refine sa ?_
  refine ca rfl rfl rfl (disk_New 60 (by decide) (by decide)) ?_
  rintro _ _ ⟨db, bs, bw, rfl, rfl⟩
  refine sp pM ?_
  refine sp pX ?_
  refine sp pX ?_
  refine sp pMa ?_
  refine sp pMa ?_
  refine oNil ?_
  refine aSeq ?_
  refine aReg ?_
  refine sp pM ?_
  refine sp pM ?_
  refine sa ?_
  refine ca rfl rfl rfl (node_StartNo (id := id) (db := db) (bs := bs) (bw := bw) hi) ?_
  rintro _ _ rfl
  refine oWeak (weak_heap (h' := []) .nil) ?_
  refine sp pM ?_
  refine sp pX ?_
  refine sp pX ?_
  refine sp pMa ?_
  refine sp pMa ?_
  refine oNil ?_
  refine aSeq ?_
  refine aReg ?_
  refine sp pM ?_
  refine sp pB ?_
  refine sp pM ?_
  refine oSplitDec 32 rfl (fun c32 => ?_) (fun c32 => ?_)
  ·skip
   refine gp pM ?_
   refine gp (pBl (by exact pB) (show _ = false from by simp; omega)) ?_
   refine sp pK ?_
   refine sp pMa ?_
   refine oNil ?_
   refine aSeq ?_
   refine aSeq ?_
   refine aReg ?_
   refine sp pM ?_
   refine sp pB ?_
   refine sp pM ?_
   refine sp (pEqB rfl (.inr rfl) rfl rfl bo_4 rfl) ?_
   refine sp pM ?_
   refine gp pM ?_
   refine gp (by first | exact pPtrNil rfl (.inr rfl) rfl pt_29 rfl rfl | exact pSpNil rfl (.inr rfl) rfl pt_29 rfl) ?_
   refine gp pM ?_
   refine gp (pEqB rfl (.inr rfl) rfl rfl bo_4 rfl) ?_
   refine sp pK ?_
   refine sp pM ?_
   refine gp pM ?_
   refine gp pNo ?_
   refine gp pM ?_
   refine gp pM ?_
   refine gp pB ?_
   refine gp pK ?_
   refine sp pK ?_
   refine oNil ?_
   refine aCondF rfl ?_
   refine aSkip ?_
   refine aSeq ?_
   refine aSeq ?_
   refine aReg ?_
   refine sp pMa ?_
   refine oNil ?_
   refine aBlock ?_
   refine loopF (α := Nat) (kept := [(1, _)]) (fun k => k ≤ 2) (fun k => [(10, .int k)]) (fun k => []) (fun k => 2 - k) 0 ?_ ⟨gInt rfl (by first | rfl | omega | simp), rfl, trivial⟩ (by repeat constructor) ?_
   ·skip
    decide
   ·rintro k hk
    refine aSeq ?_
    refine aSeq ?_
    refine aReg ?_
    refine sp pM ?_
    refine sp pB ?_
    refine oNil ?_
    refine aCondDec rfl (fun c55 => ?_) (fun c55 => ?_)
    ·skip
     refine aSkip ?_
     refine aSeq ?_
     refine aBlock ?_
     refine aSeq ?_
     refine aReg ?_
     refine sp pMa ?_
     refine oNil ?_
     refine aSeq ?_
     refine aSeq ?_
     refine aReg ?_
     refine sp pM ?_
     refine sp pB ?_
     refine oNil ?_
     refine aCondEq rfl (fun c59 => ?_) (fun c59 => ?_)
     ·skip
      refine aReg ?_
      refine sp (pBuild rfl st_90 ze_90 rfl rfl rfl rfl) ?_
      refine sq ?_
      refine qBox rfl rfl (by decide) rfl rfl (fun b61 => ?_)
      refine sp pMa ?_
      refine oNil ?_
      refine aSeq ?_
      refine aReg ?_
      refine sp pM ?_
      refine sa ?_
      first | refine cai rfl rfl rfl (node_TickZ (nb := b61)) ?_ | refine cai rfl rfl rfl (node_TickN) ?_
      refine sp pM ?_
      refine sp pX ?_
      refine sp pX ?_
      refine sp pMa ?_
      refine sp pMa ?_
      refine oNil ?_
      refine aSeq ?_
      refine aReg ?_
      refine sp pM ?_
      refine sp pM ?_
      refine sa ?_
      first | refine cai rfl rfl rfl (node_HearZ (nb := b61) (fr := 1) (b := b)) ?_ | refine cai rfl rfl rfl (node_HearN (fr := 1) (b := b)) ?_
      refine sp pM ?_
      refine sp pX ?_
      refine sp pX ?_
      refine sp pMa ?_
      refine sp pMa ?_
      refine oNil ?_
      refine aSeq ?_
      refine aReg ?_
      refine sp pM ?_
      refine sp (by first | exact pLm sl_72 | exact pLs sl_72 | exact pLv sl_72) ?_
      refine sp pB ?_
      refine sp pM ?_
      refine gp pM ?_
      refine gp pB ?_
      refine sp pK ?_
      refine sp pM ?_
      refine gp pM ?_
      refine gp (by first | exact pLm sl_72 | exact pLs sl_72 | exact pLv sl_72) ?_
      refine gp pB ?_
      refine sp pK ?_
      refine sp pM ?_
      refine gp pM ?_
      refine gp pB ?_
      refine sp pK ?_
      refine sp pM ?_
      refine gp pM ?_
      refine ga ?_
      first | refine cai rfl rfl rfl (node_PortZ (nb := b61) (fr := 1) (c := 1)) ?_ | refine cai rfl rfl rfl (node_PortN (fr := 1) (c := 1)) ?_
      refine gp pB ?_
      refine sp pK ?_
      refine sp pM ?_
      refine gp pM ?_
      refine ga ?_
      first | refine cai rfl rfl rfl (node_StoppedZ (nb := b61)) ?_ | refine cai rfl rfl rfl (node_StoppedN) ?_
      refine gp pNo ?_
      refine sp pK ?_
      refine sp pM ?_
      refine gp pM ?_
      refine ga ?_
      first | refine cai rfl rfl rfl (node_TableZ (nb := b61)) ?_ | refine cai rfl rfl rfl (node_TableN) ?_
      refine gp (by first | exact pLm sl_36 | exact pLs sl_36 | exact pLv sl_36) ?_
      refine gp pB ?_
      refine sp pK ?_
      refine sp pM ?_
      refine gp pM ?_
      refine ga ?_
      first | refine cai rfl rfl rfl (node_OwesZ (nb := b61) (k := 1)) ?_ | refine cai rfl rfl rfl (node_OwesN (k := 1)) ?_
      refine gp (by first | exact pLm sl_37 | exact pLs sl_37 | exact pLv sl_37) ?_
      refine gp pB ?_
      refine sp pK ?_
      refine sp pM ?_
      refine gp pM ?_
      refine ga ?_
      first | refine cai rfl rfl rfl (node_RoutesZ (nb := b61)) ?_ | refine cai rfl rfl rfl (node_RoutesN) ?_
      refine gp (by first | exact pLm sl_83 | exact pLs sl_83 | exact pLv sl_83) ?_
      refine gp pB ?_
      refine sp pK ?_
      refine sp pM ?_
      refine gp pM ?_
      refine ga ?_
      first | refine cai rfl rfl rfl (node_SpaceZ (nb := b61)) ?_ | refine cai rfl rfl rfl (node_SpaceN) ?_
      refine gp (pBuild rfl st_40 ze_40 rfl rfl rfl rfl) ?_
      refine gp (pEqA rfl (.inr rfl) rfl rfl eq_40 rfl rfl) ?_
      refine sp pK ?_
      refine sp pM ?_
      refine gp pM ?_
      refine ga ?_
      first | refine cai rfl rfl rfl (node_CountZ (nb := b61)) ?_ | refine cai rfl rfl rfl (node_CountN) ?_
      refine gp (pBuild rfl st_42 ze_42 rfl rfl rfl rfl) ?_
      refine gp (pEqA rfl (.inr rfl) rfl rfl eq_42 rfl rfl) ?_
      refine sp pK ?_
      refine sp pM ?_
      refine gp pM ?_
      refine ga ?_
      first | refine cai rfl rfl rfl (node_StateZ (nb := b61)) ?_ | refine cai rfl rfl rfl (node_StateN) ?_
      refine gp (pBuild rfl st_35 ze_35 rfl rfl rfl rfl) ?_
      refine oWeak (weak_cast (k := 132) (b := .agg (stC st0)) rfl cast_st0) ?_
      refine ga ?_
      refine (cv rfl rfl rfl (lents_refl _) ref11_Same0 ?_).op
      refine gp pNo ?_
      refine sp pK ?_
      refine oNil ?_
      refine aCondF rfl ?_
      refine aSkip ?_
      refine aReg ?_
      refine sp pM ?_
      refine sp pAd ?_
      refine sp pMa ?_
      refine oNil ?_
      refine ⟨k + 1, ?_, by (try dsimp only); omega, ⟨gInt rfl (by first | rfl | omega | simp), rfl, trivial⟩, _, (by repeat constructor)⟩
      omega
     ·skip
      refine aSkip ?_
      refine aSeq ?_
      refine aReg ?_
      refine sp pM ?_
      refine sa ?_
      first | refine cai rfl rfl rfl (node_TickZ (nb := b61)) ?_ | refine cai rfl rfl rfl (node_TickN) ?_
      refine sp pM ?_
      refine sp pX ?_
      refine sp pX ?_
      refine sp pMa ?_
      refine sp pMa ?_
      refine oNil ?_
      refine aSeq ?_
      refine aReg ?_
      refine sp pM ?_
      refine sp pM ?_
      refine sa ?_
      first | refine cai rfl rfl rfl (node_HearZ (nb := b61) (fr := 1) (b := b)) ?_ | refine cai rfl rfl rfl (node_HearN (fr := 1) (b := b)) ?_
      refine sp pM ?_
      refine sp pX ?_
      refine sp pX ?_
      refine sp pMa ?_
      refine sp pMa ?_
      refine oNil ?_
      refine aSeq ?_
      refine aReg ?_
      refine sp pM ?_
      refine sp (by first | exact pLm sl_72 | exact pLs sl_72 | exact pLv sl_72) ?_
      refine sp pB ?_
      refine sp pM ?_
      refine gp pM ?_
      refine gp pB ?_
      refine sp pK ?_
      refine sp pM ?_
      refine gp pM ?_
      refine gp (by first | exact pLm sl_72 | exact pLs sl_72 | exact pLv sl_72) ?_
      refine gp pB ?_
      refine sp pK ?_
      refine sp pM ?_
      refine gp pM ?_
      refine gp pB ?_
      refine sp pK ?_
      refine sp pM ?_
      refine gp pM ?_
      refine ga ?_
      first | refine cai rfl rfl rfl (node_PortZ (nb := b61) (fr := 1) (c := 1)) ?_ | refine cai rfl rfl rfl (node_PortN (fr := 1) (c := 1)) ?_
      refine gp pB ?_
      refine sp pK ?_
      refine sp pM ?_
      refine gp pM ?_
      refine ga ?_
      first | refine cai rfl rfl rfl (node_StoppedZ (nb := b61)) ?_ | refine cai rfl rfl rfl (node_StoppedN) ?_
      refine gp pNo ?_
      refine sp pK ?_
      refine sp pM ?_
      refine gp pM ?_
      refine ga ?_
      first | refine cai rfl rfl rfl (node_TableZ (nb := b61)) ?_ | refine cai rfl rfl rfl (node_TableN) ?_
      refine gp (by first | exact pLm sl_36 | exact pLs sl_36 | exact pLv sl_36) ?_
      refine gp pB ?_
      refine sp pK ?_
      refine sp pM ?_
      refine gp pM ?_
      refine ga ?_
      first | refine cai rfl rfl rfl (node_OwesZ (nb := b61) (k := 1)) ?_ | refine cai rfl rfl rfl (node_OwesN (k := 1)) ?_
      refine gp (by first | exact pLm sl_37 | exact pLs sl_37 | exact pLv sl_37) ?_
      refine gp pB ?_
      refine sp pK ?_
      refine sp pM ?_
      refine gp pM ?_
      refine ga ?_
      first | refine cai rfl rfl rfl (node_RoutesZ (nb := b61)) ?_ | refine cai rfl rfl rfl (node_RoutesN) ?_
      refine gp (by first | exact pLm sl_83 | exact pLs sl_83 | exact pLv sl_83) ?_
      refine gp pB ?_
      refine sp pK ?_
      refine sp pM ?_
      refine gp pM ?_
      refine ga ?_
      first | refine cai rfl rfl rfl (node_SpaceZ (nb := b61)) ?_ | refine cai rfl rfl rfl (node_SpaceN) ?_
      refine gp (pBuild rfl st_40 ze_40 rfl rfl rfl rfl) ?_
      refine gp (pEqA rfl (.inr rfl) rfl rfl eq_40 rfl rfl) ?_
      refine sp pK ?_
      refine sp pM ?_
      refine gp pM ?_
      refine ga ?_
      first | refine cai rfl rfl rfl (node_CountZ (nb := b61)) ?_ | refine cai rfl rfl rfl (node_CountN) ?_
      refine gp (pBuild rfl st_42 ze_42 rfl rfl rfl rfl) ?_
      refine gp (pEqA rfl (.inr rfl) rfl rfl eq_42 rfl rfl) ?_
      refine sp pK ?_
      refine sp pM ?_
      refine gp pM ?_
      refine ga ?_
      first | refine cai rfl rfl rfl (node_StateZ (nb := b61)) ?_ | refine cai rfl rfl rfl (node_StateN) ?_
      refine gp (pBuild rfl st_35 ze_35 rfl rfl rfl rfl) ?_
      refine oWeak (weak_cast (k := 132) (b := .agg (stC st0)) rfl cast_st0) ?_
      refine ga ?_
      refine (cv rfl rfl rfl (lents_refl _) ref11_Same0 ?_).op
      refine gp pNo ?_
      refine sp pK ?_
      refine oNil ?_
      refine aCondF rfl ?_
      refine aSkip ?_
      refine aReg ?_
      refine sp pM ?_
      refine sp pAd ?_
      refine sp pMa ?_
      refine oNil ?_
      refine ⟨k + 1, ?_, by (try dsimp only); omega, ⟨gInt rfl (by first | rfl | omega | simp), rfl, trivial⟩, _, (by repeat constructor)⟩
      omega
    ·skip
     refine aExit rfl ?_
     refine aSeq ?_
     refine aReg ?_
     refine sq ?_
     refine cv rfl rfl rfl (lents_refl _) law28_awake ?_
     refine sp pMa ?_
     refine oNil ?_
     refine aRet ?_
     refine finIs rfl ?_
     rfl
  ·skip
   refine gf ?_
   refine gf ?_
   refine sp pK ?_
   refine sp pMa ?_
   refine oNil ?_
   refine aSeq ?_
   refine aSeq ?_
   refine aReg ?_
   refine sp pM ?_
   refine sp pB ?_
   refine sp pM ?_
   refine sp (pEqB rfl (.inr rfl) rfl rfl bo_4 rfl) ?_
   refine sp pM ?_
   refine gp pM ?_
   refine gp (by first | exact pPtrNil rfl (.inr rfl) rfl pt_29 rfl rfl | exact pSpNil rfl (.inr rfl) rfl pt_29 rfl) ?_
   refine gp pM ?_
   refine gp (pEqB rfl (.inr rfl) rfl rfl bo_4 rfl) ?_
   refine sp pK ?_
   refine sp pM ?_
   refine gp pM ?_
   refine gp pNo ?_
   refine gp pM ?_
   refine gp pM ?_
   refine gp pB ?_
   refine gp pK ?_
   refine sp pK ?_
   refine oNil ?_
   refine aCondF rfl ?_
   refine aSkip ?_
   refine aSeq ?_
   refine aSeq ?_
   refine aReg ?_
   refine sp pMa ?_
   refine oNil ?_
   refine aBlock ?_
   refine loopF (α := Nat) (kept := [(1, _)]) (fun k => k ≤ 2) (fun k => [(10, .int k)]) (fun k => []) (fun k => 2 - k) 0 ?_ ⟨gInt rfl (by first | rfl | omega | simp), rfl, trivial⟩ (by repeat constructor) ?_
   ·skip
    decide
   ·rintro k hk
    refine aSeq ?_
    refine aSeq ?_
    refine aReg ?_
    refine sp pM ?_
    refine sp pB ?_
    refine oNil ?_
    refine aCondDec rfl (fun c55 => ?_) (fun c55 => ?_)
    ·skip
     refine aSkip ?_
     refine aSeq ?_
     refine aBlock ?_
     refine aSeq ?_
     refine aReg ?_
     refine sp pMa ?_
     refine oNil ?_
     refine aSeq ?_
     refine aSeq ?_
     refine aReg ?_
     refine sp pM ?_
     refine sp pB ?_
     refine oNil ?_
     refine aCondEq rfl (fun c59 => ?_) (fun c59 => ?_)
     ·skip
      refine aReg ?_
      refine sp (pBuild rfl st_90 ze_90 rfl rfl rfl rfl) ?_
      refine sq ?_
      refine qBox rfl rfl (by decide) rfl rfl (fun b61 => ?_)
      refine sp pMa ?_
      refine oNil ?_
      refine aSeq ?_
      refine aReg ?_
      refine sp pM ?_
      refine sa ?_
      first | refine cai rfl rfl rfl (node_TickZ (nb := b61)) ?_ | refine cai rfl rfl rfl (node_TickN) ?_
      refine sp pM ?_
      refine sp pX ?_
      refine sp pX ?_
      refine sp pMa ?_
      refine sp pMa ?_
      refine oNil ?_
      refine aSeq ?_
      refine aReg ?_
      refine sp pM ?_
      refine sp pM ?_
      refine sa ?_
      first | refine cai rfl rfl rfl (node_HearZ (nb := b61) (fr := 1) (b := b)) ?_ | refine cai rfl rfl rfl (node_HearN (fr := 1) (b := b)) ?_
      refine sp pM ?_
      refine sp pX ?_
      refine sp pX ?_
      refine sp pMa ?_
      refine sp pMa ?_
      refine oNil ?_
      refine aSeq ?_
      refine aReg ?_
      refine sp pM ?_
      refine sp (by first | exact pLm sl_72 | exact pLs sl_72 | exact pLv sl_72) ?_
      refine sp pB ?_
      refine sp pM ?_
      refine gp pM ?_
      refine gp pB ?_
      refine sp pK ?_
      refine sp pM ?_
      refine gp pM ?_
      refine gp (by first | exact pLm sl_72 | exact pLs sl_72 | exact pLv sl_72) ?_
      refine gp pB ?_
      refine sp pK ?_
      refine sp pM ?_
      refine gp pM ?_
      refine gp pB ?_
      refine sp pK ?_
      refine sp pM ?_
      refine gp pM ?_
      refine ga ?_
      first | refine cai rfl rfl rfl (node_PortZ (nb := b61) (fr := 1) (c := 1)) ?_ | refine cai rfl rfl rfl (node_PortN (fr := 1) (c := 1)) ?_
      refine gp pB ?_
      refine sp pK ?_
      refine sp pM ?_
      refine gp pM ?_
      refine ga ?_
      first | refine cai rfl rfl rfl (node_StoppedZ (nb := b61)) ?_ | refine cai rfl rfl rfl (node_StoppedN) ?_
      refine gp pNo ?_
      refine sp pK ?_
      refine sp pM ?_
      refine gp pM ?_
      refine ga ?_
      first | refine cai rfl rfl rfl (node_TableZ (nb := b61)) ?_ | refine cai rfl rfl rfl (node_TableN) ?_
      refine gp (by first | exact pLm sl_36 | exact pLs sl_36 | exact pLv sl_36) ?_
      refine gp pB ?_
      refine sp pK ?_
      refine sp pM ?_
      refine gp pM ?_
      refine ga ?_
      first | refine cai rfl rfl rfl (node_OwesZ (nb := b61) (k := 1)) ?_ | refine cai rfl rfl rfl (node_OwesN (k := 1)) ?_
      refine gp (by first | exact pLm sl_37 | exact pLs sl_37 | exact pLv sl_37) ?_
      refine gp pB ?_
      refine sp pK ?_
      refine sp pM ?_
      refine gp pM ?_
      refine ga ?_
      first | refine cai rfl rfl rfl (node_RoutesZ (nb := b61)) ?_ | refine cai rfl rfl rfl (node_RoutesN) ?_
      refine gp (by first | exact pLm sl_83 | exact pLs sl_83 | exact pLv sl_83) ?_
      refine gp pB ?_
      refine sp pK ?_
      refine sp pM ?_
      refine gp pM ?_
      refine ga ?_
      first | refine cai rfl rfl rfl (node_SpaceZ (nb := b61)) ?_ | refine cai rfl rfl rfl (node_SpaceN) ?_
      refine gp (pBuild rfl st_40 ze_40 rfl rfl rfl rfl) ?_
      refine gp (pEqA rfl (.inr rfl) rfl rfl eq_40 rfl rfl) ?_
      refine sp pK ?_
      refine sp pM ?_
      refine gp pM ?_
      refine ga ?_
      first | refine cai rfl rfl rfl (node_CountZ (nb := b61)) ?_ | refine cai rfl rfl rfl (node_CountN) ?_
      refine gp (pBuild rfl st_42 ze_42 rfl rfl rfl rfl) ?_
      refine gp (pEqA rfl (.inr rfl) rfl rfl eq_42 rfl rfl) ?_
      refine sp pK ?_
      refine sp pM ?_
      refine gp pM ?_
      refine ga ?_
      first | refine cai rfl rfl rfl (node_StateZ (nb := b61)) ?_ | refine cai rfl rfl rfl (node_StateN) ?_
      refine gp (pBuild rfl st_35 ze_35 rfl rfl rfl rfl) ?_
      refine oWeak (weak_cast (k := 132) (b := .agg (stC st0)) rfl cast_st0) ?_
      refine ga ?_
      refine (cv rfl rfl rfl (lents_refl _) ref11_Same0 ?_).op
      refine gp pNo ?_
      refine sp pK ?_
      refine oNil ?_
      refine aCondF rfl ?_
      refine aSkip ?_
      refine aReg ?_
      refine sp pM ?_
      refine sp pAd ?_
      refine sp pMa ?_
      refine oNil ?_
      refine ⟨k + 1, ?_, by (try dsimp only); omega, ⟨gInt rfl (by first | rfl | omega | simp), rfl, trivial⟩, _, (by repeat constructor)⟩
      omega
     ·skip
      refine aSkip ?_
      refine aSeq ?_
      refine aReg ?_
      refine sp pM ?_
      refine sa ?_
      first | refine cai rfl rfl rfl (node_TickZ (nb := b61)) ?_ | refine cai rfl rfl rfl (node_TickN) ?_
      refine sp pM ?_
      refine sp pX ?_
      refine sp pX ?_
      refine sp pMa ?_
      refine sp pMa ?_
      refine oNil ?_
      refine aSeq ?_
      refine aReg ?_
      refine sp pM ?_
      refine sp pM ?_
      refine sa ?_
      first | refine cai rfl rfl rfl (node_HearZ (nb := b61) (fr := 1) (b := b)) ?_ | refine cai rfl rfl rfl (node_HearN (fr := 1) (b := b)) ?_
      refine sp pM ?_
      refine sp pX ?_
      refine sp pX ?_
      refine sp pMa ?_
      refine sp pMa ?_
      refine oNil ?_
      refine aSeq ?_
      refine aReg ?_
      refine sp pM ?_
      refine sp (by first | exact pLm sl_72 | exact pLs sl_72 | exact pLv sl_72) ?_
      refine sp pB ?_
      refine sp pM ?_
      refine gp pM ?_
      refine gp pB ?_
      refine sp pK ?_
      refine sp pM ?_
      refine gp pM ?_
      refine gp (by first | exact pLm sl_72 | exact pLs sl_72 | exact pLv sl_72) ?_
      refine gp pB ?_
      refine sp pK ?_
      refine sp pM ?_
      refine gp pM ?_
      refine gp pB ?_
      refine sp pK ?_
      refine sp pM ?_
      refine gp pM ?_
      refine ga ?_
      first | refine cai rfl rfl rfl (node_PortZ (nb := b61) (fr := 1) (c := 1)) ?_ | refine cai rfl rfl rfl (node_PortN (fr := 1) (c := 1)) ?_
      refine gp pB ?_
      refine sp pK ?_
      refine sp pM ?_
      refine gp pM ?_
      refine ga ?_
      first | refine cai rfl rfl rfl (node_StoppedZ (nb := b61)) ?_ | refine cai rfl rfl rfl (node_StoppedN) ?_
      refine gp pNo ?_
      refine sp pK ?_
      refine sp pM ?_
      refine gp pM ?_
      refine ga ?_
      first | refine cai rfl rfl rfl (node_TableZ (nb := b61)) ?_ | refine cai rfl rfl rfl (node_TableN) ?_
      refine gp (by first | exact pLm sl_36 | exact pLs sl_36 | exact pLv sl_36) ?_
      refine gp pB ?_
      refine sp pK ?_
      refine sp pM ?_
      refine gp pM ?_
      refine ga ?_
      first | refine cai rfl rfl rfl (node_OwesZ (nb := b61) (k := 1)) ?_ | refine cai rfl rfl rfl (node_OwesN (k := 1)) ?_
      refine gp (by first | exact pLm sl_37 | exact pLs sl_37 | exact pLv sl_37) ?_
      refine gp pB ?_
      refine sp pK ?_
      refine sp pM ?_
      refine gp pM ?_
      refine ga ?_
      first | refine cai rfl rfl rfl (node_RoutesZ (nb := b61)) ?_ | refine cai rfl rfl rfl (node_RoutesN) ?_
      refine gp (by first | exact pLm sl_83 | exact pLs sl_83 | exact pLv sl_83) ?_
      refine gp pB ?_
      refine sp pK ?_
      refine sp pM ?_
      refine gp pM ?_
      refine ga ?_
      first | refine cai rfl rfl rfl (node_SpaceZ (nb := b61)) ?_ | refine cai rfl rfl rfl (node_SpaceN) ?_
      refine gp (pBuild rfl st_40 ze_40 rfl rfl rfl rfl) ?_
      refine gp (pEqA rfl (.inr rfl) rfl rfl eq_40 rfl rfl) ?_
      refine sp pK ?_
      refine sp pM ?_
      refine gp pM ?_
      refine ga ?_
      first | refine cai rfl rfl rfl (node_CountZ (nb := b61)) ?_ | refine cai rfl rfl rfl (node_CountN) ?_
      refine gp (pBuild rfl st_42 ze_42 rfl rfl rfl rfl) ?_
      refine gp (pEqA rfl (.inr rfl) rfl rfl eq_42 rfl rfl) ?_
      refine sp pK ?_
      refine sp pM ?_
      refine gp pM ?_
      refine ga ?_
      first | refine cai rfl rfl rfl (node_StateZ (nb := b61)) ?_ | refine cai rfl rfl rfl (node_StateN) ?_
      refine gp (pBuild rfl st_35 ze_35 rfl rfl rfl rfl) ?_
      refine oWeak (weak_cast (k := 132) (b := .agg (stC st0)) rfl cast_st0) ?_
      refine ga ?_
      refine (cv rfl rfl rfl (lents_refl _) ref11_Same0 ?_).op
      refine gp pNo ?_
      refine sp pK ?_
      refine oNil ?_
      refine aCondF rfl ?_
      refine aSkip ?_
      refine aReg ?_
      refine sp pM ?_
      refine sp pAd ?_
      refine sp pMa ?_
      refine oNil ?_
      refine ⟨k + 1, ?_, by (try dsimp only); omega, ⟨gInt rfl (by first | rfl | omega | simp), rfl, trivial⟩, _, (by repeat constructor)⟩
      omega
    ·skip
     refine aExit rfl ?_
     refine aSeq ?_
     refine aReg ?_
     refine sq ?_
     refine cv rfl rfl rfl (lents_refl _) law28_awake ?_
     refine sp pMa ?_
     refine oNil ?_
     refine aRet ?_
     refine finIs rfl ?_
     rfl
theorem law28_Nobody {id : Int} {b : BS} (hb : b.length ≤ 9223372036854775807) : Triple Tryz.prog 5 [.int id, bsA b] [] (Is (.v (.bool true)) []) := by
 cases hi : inr id 1 64 with
 | true => exact law28_Nobody1 hb hi
 | false => exact law28_Nobody0 hb hi
end A
end Go.Proofs.YthkgdhamnpiagaaGreat
namespace Go.Proofs.YthkgdhamnpiagaaGreat
namespace A
theorem op_by : OpC Tryz.prog 5 1 Nat by1 (fun n => n < 256) :=
 opMapP (opInt Tryz.underlying5) (fun x => x.toNat) (fun x hx => by simp [by1, Int.toNat_of_nonneg (u8_range hx).1]) (fun x hx => by have := u8_range hx; show x.toNat < 256; omega)
end A
end Go.Proofs.YthkgdhamnpiagaaGreat
namespace Go.Proofs.YthkgdhamnpiagaaGreat.nodeNobody
open Go.ChangeShapes Go.WideShapes Go.ChangeAt Go.RowKit Go.Proofs.YthkgdhamnpiagaaGreat.A
open Go.ChangeMaps (open_string shut_string)
theorem own : ownKnob Tryz.prog.godebug = none := by kernel_rfl
theorem laidOut : laidOutB Tryz.prog = true := A.laidAll
theorem fInPlace : (Rows.nodeNobodyRow.inPlace == Tryz.prog.inPlace 5) = true := by kernel_rfl
theorem fUnfollowed : (Rows.nodeNobodyRow.unfollowed == Tryz.prog.unfollowed 5) = true := by kernel_rfl
theorem fRecurses : (Rows.nodeNobodyRow.recurses == Tryz.prog.recurses 5) = true := by kernel_rfl
theorem fNamed : (Rows.nodeNobodyRow.named == Tryz.prog.varsNamed 5) = true := by kernel_rfl
theorem closed : joinedFacts Tryz.prog 5 Tryz.f5 Rows.nodeNobodySpec Rows.nodeNobodyRow = true := by
 unfold joinedFacts
 simp only [Bool.and_eq_true]
 refine ⟨⟨⟨⟨⟨⟨⟨⟨⟨⟨⟨⟨⟨⟨⟨⟨⟨⟨⟨⟨⟨⟨⟨⟨⟨⟨⟨⟨⟨⟨⟨?_, A.laidAll⟩, A.mapsAll⟩, ?_⟩, ?_⟩, ?_⟩, ?_⟩, ?_⟩, ?_⟩, fInPlace⟩, fUnfollowed⟩, fRecurses⟩, fNamed⟩, ?_⟩, ?_⟩, ?_⟩, ?_⟩, ?_⟩, ?_⟩, ?_⟩, ?_⟩, ?_⟩, ?_⟩, ?_⟩, A.stopsAll⟩, A.mayE⟩, by rw [A.lifF]; kernel_rfl⟩, by rw [A.mkC]; kernel_rfl⟩, ?_⟩, ?_⟩, ?_⟩, ?_⟩
 all_goals kernel_rfl
set_option maxRecDepth 100000 in
theorem lifted (os : Os) (started : os.Started) (H : Type) (enc : TypeId × Value → H) :
   ReturnsInHanded {} Tryz.checked os 5 .any (Rows.nodeNobodySpec.pre6 enc Tryz.prog Tryz.f5 Rows.nodeNobodyRow.domain false) (Rows.nodeNobodySpec.post enc Tryz.prog Tryz.f5 false true false false) := by
 refine returnsInHanded_of_change_sized (C := Tryz.checked) own started (by kernel_rfl) Tryz.func5
   (ChangeSpec.witness6 (enc := enc) (C := Tryz.checked) false ⟨#[], #[.int .i64 0, .slice none 0 0], []⟩ 8 (by kernel_rfl) (by kernel_rfl) (by kernel_rfl) (by kernel_rfl)) ?_
 intro W base args ds gs before hval0 hW hcnd hsz0 _
 have hval : ∀ (j : Nat) t v, Tryz.f5.params[j]? = some t → args[j]? = some v → Value.okWide Tryz.prog W .any base t v := hval0
 have hW' := hW
 obtain ⟨p, q, hA0, hV, rfl, hfz, hnd⟩ := hW
 have hA : DataW.TrodAll enc Tryz.prog W 0 (fun _ => true) true Tryz.f5.params.toList args.toList ds p := hA0
 rw [Tryz.params5] at hA hval
 obtain ⟨v0, vs0, d0, ds0, p0, q0, hargs, rfl, rfl, h0, r0⟩ := trodAll_cons hA
 obtain ⟨v1, vs1, d1, ds1, p1, q1, rfl, rfl, rfl, h1, r1⟩ := trodAll_cons r0
 obtain ⟨rfl, rfl, rfl⟩ := trodAll_nil r1
 obtain rfl : args = #[v0, v1] := by cases args; simp_all
 obtain ⟨rfl, rfl⟩ := trodVars_none hV
 have k0 := h0
 have lt0 : ∀ x ∈ p0, x.block < W.heap.size := by obtain ⟨m, hm⟩ := k0; exact DataW.trod_lt m _ _ _ hm
 have one0 : v0.oneCell' = true := by obtain ⟨_, rfl⟩ := okWide_int Tryz.underlying3 (hval 0 3 v0 rfl rfl); rfl
 obtain ⟨a0, w0, rep0⟩ := argOne (opInt Tryz.underlying3) one0 h0
 have k1 := h1
 have lt1 : ∀ x ∈ p1, x.block < W.heap.size := by obtain ⟨m, hm⟩ := k1; exact DataW.trod_lt m _ _ _ hm
 have one1 : v1.oneCell' = true := by obtain ⟨_, _, _, rfl⟩ := okWide_slice Tryz.underlying50 (hval 1 50 v1 rfl rfl); rfl
 obtain ⟨a1, w1, rep1⟩ := argOne (opSlice Tryz.underlying50 (by kernel_rfl) (by decide) op_by) one1 h1
 refine (law_calls (law28_Nobody (id := a0) (b := a1) w1.2) (reps_cons rep0 (reps_cons rep1 reps_nil))).mono fun e W' ⟨he, bel⟩ => ?_
 subst he
 exact ⟨_, rfl, _, _, _, [], _, [], hW', trodAll_mk1 (shut_bool Tryz.underlying4 _), (trodAll_cons_mk (Below.trod laidOut (by kernel_rfl) (of_decide_eq_true (by kernel_rfl)) k0 bel lt0) (trodAll_cons_mk (Below.trod laidOut (by kernel_rfl) (of_decide_eq_true (by kernel_rfl)) k1 bel lt1) trodAll_mk0)), rfl, bel.frame _, fun h => by cases h⟩
theorem over : Rows.nodeNobodyRow.holds Tryz.pinned (OpenSpec.ofChange Rows.nodeNobodySpec) :=
 OpenClaim.holds_of_wide 5 Tryz.f5 rfl rfl rfl rfl rfl rfl rfl ⟨rfl, rfl, rfl, rfl, rfl⟩ rfl rfl rfl rfl rfl (by kernel_rfl) Tryz.func5 closed
   (of_decide_eq_true (by kernel_rfl)) (by unfold Func.isWrapper; first | (rw [if_pos (by decide +kernel)]; kernel_rfl) | (rw [if_neg (by decide +kernel)]; exact ⟨rfl, rfl⟩))
   (fun os started H enc _ => lifted os started H enc)
theorem proved : Rows.NodeNobodySaid := over
#print axioms proved
end Go.Proofs.YthkgdhamnpiagaaGreat.nodeNobody
