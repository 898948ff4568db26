/- Texts that ConfigTextsCard's proof rests on, part 13. -/
import Derived.Laws.Concat
import Derived.Laws.DeepStrings4
import Derived.Test.YtgdfppjapnpcgaaDoorS11ConfigTextsCard
set_option linter.unusedVariables false
set_option linter.unusedSimpArgs false
namespace Go.Proofs.YtgdfppjapnpcgaaDoor
namespace A
variable {P : Program} {N : Nat} {env : Env} {h : List HA} {K : Cont} {X : List (Nat × Cont)} {Rt : Cont}
abbrev SB := List UInt8
/-- A string, by its bytes. -/
abbrev strA (l : SB) : AV := .v (.string ⟨l.toArray⟩)
theorem str_size (l : SB) : (ByteArray.mk l.toArray).size = l.length := by simp [ByteArray.size]
theorem str_app (a b : SB) : (ByteArray.mk a.toArray) ++ (ByteArray.mk b.toArray) = ByteArray.mk (a ++ b).toArray := by
 apply ByteArray.ext
 simp [ByteArray.data_append]
theorem str_cut (l : SB) (i j : Nat) : (ByteArray.mk l.toArray).extract i j = ByteArray.mk ((l.take j).drop i).toArray := by
 apply ByteArray.ext
 rw [ByteArray.data_extract]
 apply Array.ext'
 simp only [Array.toList_extract, List.extract_eq_take_drop, List.drop_take]
theorem pCat {o : Oper} {t t' : TypeId} {x y : Operand} {a b : SB} (ho : o.op = .binOp .add t x y t' := by rfl) (hx : ev env x = some (strA a) := by rfl) (hy : ev env y = some (strA b) := by rfl) (hl : a.length + b.length ≤ 9223372036854775807 := by first | omega | (simp; omega) | simp) : APure P N o env (strA (a ++ b)) := by
 intro F h a' w st
 have hr := st.ev hx
 have hr' := st.ev hy
 generalize hv : a'.eval x = v at hr
 generalize hv' : a'.eval y = v' at hr'
 cases hr
 cases hr'
 refine ⟨_, .v _, fun w' => ?_⟩
 have := run_string_add_sum (P := P) w' (ByteArray.mk a.toArray) (ByteArray.mk b.toArray) (by rw [str_size, str_size]; exact hl)
 simp [execOp, ho, hv, hv', eqGuard, binOp_string_add, this, str_app]
theorem pEqStr {o : Oper} {t t' : TypeId} {x y : Operand} {a b : SB} (ho : o.op = .binOp .eql t x y t' := by rfl) (hx : ev env x = some (strA a) := by rfl) (hy : ev env y = some (strA b) := by rfl) : APure P N o env (.v (.bool (decide (a = b)))) := by
 intro F h a' w st
 have hr := st.ev hx
 have hr' := st.ev hy
 generalize hv : a'.eval x = v at hr
 generalize hv' : a'.eval y = v' at hr'
 cases hr
 cases hr'
 refine ⟨_, .v _, fun w' => ?_⟩
 simp [execOp, ho, hv, hv', eqGuard, binOp_string_eql, ByteArray.toList_mk]
 rw [Bool.eq_iff_iff]
 simp
theorem pNeStr {o : Oper} {t t' : TypeId} {x y : Operand} {a b : SB} (ho : o.op = .binOp .neq t x y t' := by rfl) (hx : ev env x = some (strA a) := by rfl) (hy : ev env y = some (strA b) := by rfl) : APure P N o env (.v (.bool (!decide (a = b)))) := by
 intro F h a' w st
 have hr := st.ev hx
 have hr' := st.ev hy
 generalize hv : a'.eval x = v at hr
 generalize hv' : a'.eval y = v' at hr'
 cases hr
 cases hr'
 refine ⟨_, .v _, fun w' => ?_⟩
 simp [execOp, ho, hv, hv', eqGuard, binOp_string_neq, ByteArray.toList_mk]
 rw [Bool.eq_iff_iff]
 simp
theorem pLenStr {o : Oper} {t : TypeId} {x : Operand} {a : SB} (hu : P.underlying t = some .string) (ho : o.op = .call ⟨.builtin .len, #[x], #[t]⟩ := by rfl) (hx : ev env x = some (strA a) := by rfl) : APure P N o env (.int (a.length : Nat)) := by
 intro F h a' w st
 have hr := st.ev hx
 generalize hv : a'.eval x = v at hr
 cases hr
 refine ⟨_, .v _, fun w' => ?_⟩
 simp only [execOp, ho, resolve, Sem.run_bind, Sem.run_pure, Result.andThen_ok, invoke, builtin]
 simp only [List.map_toArray, List.map_cons, List.map_nil, hv]
 simp [run_len_string w' t o.type _ hu, goInt, str_size]
theorem pByte {o : Oper} {t : TypeId} {x y : Operand} {k : IntKind} {i : Int} {a : SB} {c : UInt8} (hu : P.underlying t = some .string) (hc : 0 ≤ i ∧ a[i.toNat]? = some c) (ho : o.op = .index t x y := by rfl) (hx : ev env x = some (strA a) := by rfl) (hy : ev env y = some (.v (.int k i)) := by rfl) : APure P N o env (.v (.int .u8 (c.toNat : Int))) := by
 intro F h a' w st
 have hr := st.ev hx
 have hr' := st.ev hy
 generalize hv : a'.eval x = v at hr
 generalize hv' : a'.eval y = v' at hr'
 cases hr
 cases hr'
 refine ⟨_, .v _, fun w' => ?_⟩
 obtain ⟨h0, hc⟩ := hc
 obtain ⟨hl, rfl⟩ := List.getElem?_eq_some_iff.1 hc
 have := run_index_string (P := P) w' t (ByteArray.mk a.toArray) k i hu
 rw [dif_pos (by rw [str_size]; omega)] at this
 simp only [execOp, ho, hv, hv', Sem.run_bind, this, Result.andThen_ok, Sem.run_pure]
 rfl
theorem pCut {o : Oper} {t : TypeId} {x y z : Operand} {k k' : IntKind} {i j : Int} {a : SB} (hu : P.underlying t = some .string) (h0 : 0 ≤ i) (h1 : i ≤ j) (h2 : j ≤ a.length) (ho : o.op = .slice t x (some y) (some z) none := by rfl) (hx : ev env x = some (strA a) := by rfl) (hy : ev env y = some (.v (.int k i)) := by rfl) (hz : ev env z = some (.v (.int k' j)) := by rfl) : APure P N o env (strA ((a.take j.toNat).drop i.toNat)) := by
 intro F h a' w st
 have hr := st.ev hx
 have hr' := st.ev hy
 have hr'' := st.ev hz
 generalize hv : a'.eval x = v at hr
 generalize hv' : a'.eval y = v' at hr'
 generalize hv'' : a'.eval z = v'' at hr''
 cases hr
 cases hr'
 cases hr''
 refine ⟨_, .v _, fun w' => ?_⟩
 have := run_slice_string_if (P := P) w' t (ByteArray.mk a.toArray) k k' i j hu
 rw [if_pos (by rw [str_size]; omega), if_pos (by omega), str_cut] at this
 simp [execOp, ho, hv, hv', hv'', run_sliceAt_string w' t _ _ _ _ hu, this]
theorem run_ifN0 (d : Nat) {t : TypeId} {ms : Array (String × TypeId)} (hu : P.underlying t = some (.interface ms)) (w : World) : (Op.equalIn (d + 1) t .nilIface .nilIface).run P w = .ok true w := by simp [Op.equalIn, run_underlying' hu]
theorem run_ifN1 (d : Nat) {t te : TypeId} {pe : Value} {ms : Array (String × TypeId)} (hu : P.underlying t = some (.interface ms)) (w : World) : (Op.equalIn (d + 1) t (.iface te pe) .nilIface).run P w = .ok false w := by simp [Op.equalIn, run_underlying' hu]
/-- An error against none. -/
theorem pIfNil {o : Oper} {t t' : TypeId} {x : Operand} {v : Value} {q : Bool} {ms : Array (String × TypeId)} (hu : P.underlying t = some (.interface ms)) (hv : v = .nilIface ∧ q = false ∨ (∃ te pe, v = .iface te pe) ∧ q = true) (ho : o.op = .binOp .neq t x (.const .nilIface) t' := by rfl) (hx : ev env x = some (.v v) := by rfl) : APure P N o env (.v (.bool q)) := by
 intro F h a' w st
 have hr := st.ev hx
 generalize hv' : a'.eval x = y at hr
 cases hr
 have hc : a'.eval (.const .nilIface) = .nilIface := rfl
 refine ⟨_, .v _, fun w' => ?_⟩
 rcases hv with ⟨rfl, rfl⟩ | ⟨⟨te, pe, rfl⟩, rfl⟩
 ·have e : (Op.equal t .nilIface .nilIface).run P w' = .ok true w' := run_ifN0 9999 hu w'
  simp [execOp, ho, hv', hc, eqGuard, binOp, e]
 ·have e : (Op.equal t (.iface te pe) .nilIface).run P w' = .ok false w' := run_ifN1 9999 hu w'
  simp [execOp, ho, hv', hc, eqGuard, binOp, e]
end A
end Go.Proofs.YtgdfppjapnpcgaaDoor
