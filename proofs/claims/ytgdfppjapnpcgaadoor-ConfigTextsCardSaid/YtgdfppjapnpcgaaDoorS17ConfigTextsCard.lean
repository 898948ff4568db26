/- Texts that ConfigTextsCard's proof rests on, part 18. -/
import Derived.KernelRfl
import Derived.Lib.LaidU8
import Derived.Shelf.Vars
import Derived.Test.YtgdfppjapnpcgaaDoorProg
import Derived.Test.YtgdfppjapnpcgaaDoorS16ConfigTextsCard
set_option linter.unusedVariables false
set_option linter.unusedSimpArgs false
namespace Go.Proofs.YtgdfppjapnpcgaaDoor
namespace A
open Go.Lib (itoa join)
theorem op_Wire : OpC Tryd.prog 38 5 Wi wirC (fun _ => True) :=
 opMap (opStruct Tryd.underlying38 (by kernel_rfl) (fsCons rfl (by kernel_rfl) (opInt Tryd.underlying3) (fsCons rfl (by kernel_rfl) (opInt Tryd.underlying3) (fsCons rfl (by kernel_rfl) (opBool Tryd.underlying4) (fsCons rfl (by kernel_rfl) (opInt Tryd.underlying3) (fsCons rfl (by kernel_rfl) (opInt Tryd.underlying3) fsNil)))))) (fun x => ⟨x.1, x.2.1, x.2.2.1, x.2.2.2.1, x.2.2.2.2.1⟩) (fun _ => rfl) (fun _ _ => trivial)
structure PlanA where
 n : Int
 m : Int
 l : List Wi
def planC (x : PlanA) : List AV := [.int x.n, .int x.m, .sl 5 (x.l.map wirC)]
theorem op_Plan : OpC Tryd.prog 24 3 PlanA planC (fun x => x.l.length ≤ maxLen) :=
 opMap (opStruct Tryd.underlying24 (by kernel_rfl) (fsCons rfl (by kernel_rfl) (opInt Tryd.underlying3) (fsCons rfl (by kernel_rfl) (opInt Tryd.underlying3) (fsCons rfl (by kernel_rfl) (opSlice Tryd.underlying22 (by kernel_rfl) (by decide) op_Wire) fsNil)))) (fun x => ⟨x.1, x.2.1, x.2.2.1⟩) (fun _ => rfl) (fun x hx => hx.2.2.1.2)
theorem law_callsK {P : Program} {f : FuncId} {l : List AV} {vs : Array Value} {W : World} (KS : List HA) (T : Triple P f l KS (fun r h' => r = .v (.bool true) ∧ h' = KS)) (ho : owns KS = []) (hk : ∀ x ∈ KS, HARep (FAll W) W x) (hr : Reps (FAll W) W l vs) : Calls P f vs W fun e W' => e = .returned (.bool true) ∧ Go.RowKit.Below W.heap.size W W' := by
 refine (T.2 (FAll W) W vs ⟨hk, by rw [ho]; simp, fun b hb => by rw [ho] at hb; simp at hb, fun b hb => ⟨hb, by rw [ho]; simp⟩⟩ hr).mono ?_
 rintro e W' ⟨r, x, h', F', rfl, ⟨rfl, rfl⟩, hrep, _, hE⟩
 cases hrep
 exact ⟨rfl, hE.os, hE.tape, hE.output, hE.size, fun k hk => hE.keep k hk (by rw [ho]; simp)⟩
theorem iface_one {P : Program} {w : World} {fuel : Nat} {t : TypeId} {ms : Array (String × TypeId)} {cs : List Value} {n : String} {d : DataW Unit} {p : List MemPlace} (hu : P.underlying t = some (.interface ms)) (h : DataW.trod (fun _ => ()) P w 0 (fun _ => true) false fuel t cs = some (.iface n d, p)) : ∃ u v, cs = [.iface u v] := by
 cases fuel with
 | zero => simp [DataW.trod] at h
 | succ fuel =>
   simp only [DataW.trod, hu] at h
   split at h
   all_goals first | exact ⟨_, _, rfl⟩ | (simp at h; done) | (rename_i hq; simp at hq; done) | (rename_i hq _; simp at hq; done)
theorem var_heap {P : Program} {w : World} {n : String} {g : Nat} {cs : Array Value} (hg : P.globalNamed n = some g) (h : w.var? P n = some cs) : ∃ t z, w.heap[g]? = some (.cells cs t z) := by
 unfold World.var? at h
 rw [hg] at h
 simp only [Option.bind_some] at h
 split at h
 ·rename_i cs' t z hh
  cases h
  exact ⟨t, z, hh⟩
 ·cases h
theorem iface_var {P : Program} {w : World} {nm : String} {g : Nat} {t : TypeId} {ms : Array (String × TypeId)} {n : String} {d : DataW Unit} (hg : P.globalNamed nm = some g) (ht : (P.globals[g]?).map (·.type) = some t) (hu : P.underlying t = some (.interface ms)) (h : Go.Lib.VarReads P w nm (.iface n d)) : ∃ u v ty z, w.heap[g]? = some (.cells #[.iface u v] ty z) := by
 obtain ⟨g', t', cs, fuel, p, h1, h2, h3, h4⟩ := h
 obtain rfl := Option.some.inj (hg.symm.trans h1)
 obtain rfl := Option.some.inj (ht.symm.trans h2)
 obtain ⟨u, v, hc⟩ := iface_one hu h4
 obtain ⟨ty, z, hh⟩ := var_heap hg h3
 have : cs = #[.iface u v] := by rw [← Array.toArray_toList (xs := cs), hc]
 exact ⟨u, v, ty, z, this ▸ hh⟩
theorem tab_var {P : Program} {w : World} {nm : String} {g : Nat} {t e : TypeId} {n : Nat} {k : IntKind} {zs : List Int} (hg : P.globalNamed nm = some g) (hty : (P.globals[g]?).map (·.type) = some t) (ht : P.underlying t = some (.array n e)) (he : P.underlying e = some (.int k)) (hce : P.cellsOf e = 1) (hct : P.cellsOf t = n) (h : Go.Lib.VarReads P w nm (Go.Lib.tabData k zs)) : ∃ ty z, w.heap[g]? = some (.cells (zs.map fun z => Value.int k z).toArray ty z) := by
 obtain ⟨g', t', cs, fuel, p, h1, h2, h3, h4⟩ := h
 obtain rfl := Option.some.inj (hg.symm.trans h1)
 obtain rfl := Option.some.inj (hty.symm.trans h2)
 obtain ⟨ty, z, hh⟩ := var_heap hg h3
 have hc := Go.Lib.cells_of_tab ht he hce hct h4
 have : cs = (zs.map fun z => Value.int k z).toArray := by rw [← Array.toArray_toList (xs := cs), hc]
 exact ⟨ty, z, this ▸ hh⟩
theorem int_var {P : Program} {w : World} {g : Nat} {t : TypeId} {zero : Array Value} {k : IntKind} (h : w.ShapedOpen P) (hg : g < P.globals.size) (h0 : ((begin P (fun _ _ => 0) default).world.heap[g]?).bind Obj.row? = some (zero, t)) (hz : zero.size = 1)
   (hb : P.buildable t = true) (hc : P.cellTypes P.depth t = some [t]) (hu : P.underlying t = some (.int k)) : ∃ m ty z, w.heap[g]? = some (.cells #[.int k m] ty z) := by
 obtain ⟨m, hm⟩ := Go.Proofs.cell_of_shapedOpen_int h hg h0 hz hb hc hu
 obtain ⟨cs, hh, hs, _⟩ := h.1 g zero t hg h0
 have h1 : 0 < cs.size := by omega
 have hcell : w.cell? ⟨g, 0, none⟩ = some cs[0] := by simp [World.cell?, hh, h1]
 rw [hcell] at hm
 have : cs = #[.int k m] := by
   apply Array.ext
   ·simp; omega
   ·intro i hi hj
    have : i = 0 := by omega
    subst this
    simpa using hm
 exact ⟨m, t, (0, 0), this ▸ hh⟩
theorem heap_lt {w : World} {b : Nat} {o : Obj} (h : w.heap[b]? = some o) : b < w.heap.size := (Array.getElem?_eq_some_iff.1 h).1
theorem gl_of {W : World} (h0 : ∃ m ty z, W.heap[0]? = some (.cells #[.int .i64 m] ty z)) (h1 : ∃ ty z, W.heap[1]? = some (.cells (Go.Lib.pow10Tab.map fun z => Value.int .u64 z).toArray ty z)) (h4 : ∃ u v ty z, W.heap[4]? = some (.cells #[.iface u v] ty z)) (h5 : ∃ u v ty z, W.heap[5]? = some (.cells #[.iface u v] ty z)) :
   ∃ G : Gl, ∀ x ∈ ([.know 0 (.cells #[.int .i64 G.m] G.tm G.zm), .know 1 (powO G.tp G.zp), .know 4 (.cells #[G.es] G.ts G.zs), .know 5 (.cells #[G.er] G.tr G.zr)] : List HA), HARep (FAll W) W x := by
 obtain ⟨m, tm, zm, a0⟩ := h0
 obtain ⟨tp, zp, a1⟩ := h1
 obtain ⟨su, sv, ts, zs, a4⟩ := h4
 obtain ⟨ru, rv, tr, zr, a5⟩ := h5
 refine ⟨⟨m, tm, zm, tp, zp, .iface su sv, ts, zs, .iface ru rv, tr, zr, .inr ⟨_, _, rfl⟩, .inr ⟨_, _, rfl⟩⟩, fun x hx => ?_⟩
 simp only [List.mem_cons, List.not_mem_nil, or_false] at hx
 rcases hx with rfl | rfl | rfl | rfl
 ·exact ⟨heap_lt a0, a0⟩
 ·exact ⟨heap_lt a1, a1⟩
 ·exact ⟨heap_lt a4, a4⟩
 ·exact ⟨heap_lt a5, a5⟩
theorem str_arg {W : World} {x : ByteArray} {v : Value} (h : Rep (FAll W) W (.v (.string x)) v) : Rep (FAll W) W (strA x.data.toList) v := by
 have e : strA x.data.toList = .v (.string x) := by unfold strA; rw [ba_mk]
 rw [e]
 exact h
end A
end Go.Proofs.YtgdfppjapnpcgaaDoor
