/- Texts that NodeNobody's proof rests on, part 13. -/
import Derived.Lib.AppendZeros
import Derived.Test.YthkgdhamnpiagaaGreatS11NodeNobody
set_option linter.unusedVariables false
set_option linter.unusedSimpArgs false
namespace Go.Proofs.YthkgdhamnpiagaaGreat
namespace A
open Go.Lib Go.RowKit
variable {P : Program} {N : Nat} {env : Env} {h : List HA} {K : Env → List HA → Prop}
/-! ### Bits -/
theorem u32_xor {a b : Nat} (ha : a < 2 ^ 32) (hb : b < 2 ^ 32) : Value.int .u32 (IntKind.u32.wrap ((BitVec.ofInt IntKind.u32.bits (a : Int) ^^^ BitVec.ofInt IntKind.u32.bits (b : Int)).toNat : Int)) = .int .u32 ((a ^^^ b : Nat) : Int) := by
 have e : (BitVec.ofInt IntKind.u32.bits (a : Int) ^^^ BitVec.ofInt IntKind.u32.bits (b : Int)).toNat = a ^^^ b := by
   show (BitVec.ofInt 32 (a : Int) ^^^ BitVec.ofInt 32 (b : Int)).toNat = _
   rw [BitVec.toNat_xor, bits32 a ha, bits32 b hb]
 rw [e, wrap_u32 (by omega) (by have := Nat.xor_lt_two_pow (n := 32) ha hb; omega)]
theorem bits64 (a : Nat) (ha : a < 2 ^ 64) : (BitVec.ofInt 64 (a : Int)).toNat = a := by
 rw [BitVec.toNat_ofInt]
 omega
theorem u64_or {a b : Nat} (ha : a < 2 ^ 64) (hb : b < 2 ^ 64) : Value.int .u64 (IntKind.u64.wrap ((BitVec.ofInt IntKind.u64.bits (a : Int) ||| BitVec.ofInt IntKind.u64.bits (b : Int)).toNat : Int)) = .int .u64 ((a ||| b : Nat) : Int) := by
 have e : (BitVec.ofInt IntKind.u64.bits (a : Int) ||| BitVec.ofInt IntKind.u64.bits (b : Int)).toNat = a ||| b := by
   show (BitVec.ofInt 64 (a : Int) ||| BitVec.ofInt 64 (b : Int)).toNat = _
   rw [BitVec.toNat_or, bits64 a ha, bits64 b hb]
 rw [e, wrap_u64 (by omega) (by have := Nat.or_lt_two_pow (n := 64) ha hb; omega)]
section
variable {o : Oper} {t t' : TypeId} {xo yo : Operand} {a b : Nat} {k' : IntKind}
theorem pXorU (ho : o.op = .binOp .xor t xo yo t' := by rfl) (hx : ev env xo = some (.v (.int .u32 (a : Int))) := by rfl) (hy : ev env yo = some (.v (.int .u32 (b : Int))) := by rfl) (ha : a < 2 ^ 32 := by omega) (hb : b < 2 ^ 32 := by omega) : APure P N o env (.v (.int .u32 ((a ^^^ b : Nat) : Int))) := pBin ho hx hy rfl (u32_xor ha hb)
theorem pLowU (ho : o.op = .binOp .and t xo yo t' := by rfl) (hx : ev env xo = some (.v (.int .u32 (a : Int))) := by rfl) (hy : ev env yo = some (.v (.int .u32 1)) := by rfl) (ha : a < 2 ^ 32 := by omega) : APure P N o env (.v (.int .u32 ((a % 2 : Nat) : Int))) := by
 have := pBin (P := P) (N := N) (env := env) ho hx (y := .int .u32 ((1 : Nat) : Int)) hy rfl (u32_and (b := 1) ha (by decide))
 rwa [show a &&& 1 = a % 2 from Nat.and_one_is_mod a] at this
theorem pOrLow {c : Nat} (ho : o.op = .binOp .or t xo yo t' := by rfl) (hx : ev env xo = some (.v (.int .u64 ((a * 256 : Nat) : Int))) := by rfl) (hy : ev env yo = some (.v (.int .u64 (c : Int))) := by rfl) (hc : c < 256 := by omega) (ha : a * 256 + c < 18446744073709551616 := by omega) : APure P N o env (.v (.int .u64 ((a * 256 + c : Nat) : Int))) := by
 have := pBin (P := P) (N := N) (env := env) ho hx hy rfl (u64_or (a := a * 256) (b := c) (Nat.lt_of_le_of_lt (Nat.le_add_right _ _) ha) (Nat.lt_trans hc (by decide)))
 have e : a * 256 ||| c = a * 256 + c := by
   have := Nat.two_pow_add_eq_or_of_lt (i := 8) (b := c) (by omega) a
   rw [Nat.mul_comm a 256]
   exact this.symm
 rwa [e] at this
theorem pShlB (ho : o.op = .binOp .shl t xo yo t' := by rfl) (hx : ev env xo = some (.v (.int .u64 (a : Int))) := by rfl) (hy : ev env yo = some (.v (.int k' 8)) := by rfl) (ha : a * 256 < 18446744073709551616 := by omega) : APure P N o env (.v (.int .u64 ((a * 256 : Nat) : Int))) := by
 have := pShl (P := P) (N := N) ho hx hy (by decide)
 have e : IntKind.u64.wrap ((a : Int) * 2 ^ (min (8 : Int).toNat IntKind.u64.bits)) = ((a * 256 : Nat) : Int) := by
   rw [show (min (8 : Int).toNat IntKind.u64.bits) = 8 from rfl, show (2 : Int) ^ 8 = 256 from rfl, show (a : Int) * 256 = ((a * 256 : Nat) : Int) by omega, wrap_u64 (by omega) (by omega)]
 rwa [e] at this
theorem pMulU {c : Nat} (ho : o.op = .binOp .mul t xo yo t' := by rfl) (hx : ev env xo = some (.v (.int .u32 (c : Int))) := by rfl) (hy : ev env yo = some (.v (.int .u32 (b : Int))) := by rfl) (hc : c * b < 4294967296 := by omega) : APure P N o env (.v (.int .u32 ((c * b : Nat) : Int))) :=
 pBin ho hx hy rfl (by
   have e : IntKind.u32.wrap ((c : Int) * (b : Int)) = ((c * b : Nat) : Int) := by
     have : (c : Int) * (b : Int) = ((c * b : Nat) : Int) := by simp
     rw [this, wrap_u32 (by omega) (by omega)]
   rw [← e])
theorem u8_mod (a : Nat) : IntKind.u8.wrap (a : Int) = ((a % 256 : Nat) : Int) := by
 simp only [IntKind.wrap, IntKind.signed, IntKind.bits]
 simp
theorem pNotU (ho : o.op = .unOp .xor t xo := by rfl) (hx : ev env xo = some (.v (.int .u32 (a : Int))) := by rfl) (ha : a < 2 ^ 32 := by omega) : APure P N o env (.v (.int .u32 ((4294967295 - a : Nat) : Int))) := by
 intro F h q w s
 have hr := s.ev hx
 generalize hvx : q.eval xo = vx at hr
 cases hr
 refine ⟨_, .v _, fun w' => ?_⟩
 have e1 : (if IntKind.u32.signed then (-1 : Int) else IntKind.u32.max) = ((4294967295 : Nat) : Int) := rfl
 have e2 := u32_xor (a := 4294967295) (b := a) (by decide) ha
 have e3 : 4294967295 ^^^ a = 4294967295 - a := by
   have := Nat.xor_comm 4294967295 a
   have h4 : a ^^^ (2 ^ 32 - 1) = 2 ^ 32 - 1 - a := by
     apply Nat.eq_of_testBit_eq
     intro i
     rw [Nat.testBit_xor, Nat.testBit_two_pow_sub_one]
     by_cases hi : i < 32
     ·rw [show 2 ^ 32 - 1 - a = 2 ^ 32 - (a + 1) by omega, Nat.testBit_two_pow_sub_succ (by omega)]
      simp [hi]
     ·have h5 : a.testBit i = false := Nat.testBit_lt_two_pow (Nat.lt_of_lt_of_le ha (Nat.pow_le_pow_right (by decide) (by omega)))
      have h6 : (2 ^ 32 - 1 - a).testBit i = false := Nat.testBit_lt_two_pow (Nat.lt_of_lt_of_le (show 2 ^ 32 - 1 - a < 2 ^ 32 by omega) (Nat.pow_le_pow_right (by decide) (by omega)))
      rw [h5, h6]
      simp [hi]
   rw [this]
   exact h4
 rw [e3] at e2
 simp only [execOp, ho, hvx, Op.unary, Op.intBits, e1]
 rw [e2]
 rfl
end
theorem weak_cast {k : Nat} {a b : AV} (hk : get env k = some a) (hc : Cast a b) : Weak N env h ((k, b) :: env) h := fun F x w s =>
 ⟨F, ⟨s.r, s.size, fun j av hj => by
   simp only [A.get] at hj
   by_cases e : k = j
   ·subst e
    have : Nat.beq k k = true := by simp
    rw [this] at hj
    simp only [cond_true, Option.some.injEq] at hj
    subst hj
    exact hc F w _ (s.env k a hk)
   ·rw [beq_no e] at hj
    exact s.env j av hj⟩, .refl F h w⟩
/-! ### Slices with three bounds; room -/
theorem run_bounds3 {F : Nat → Prop} {a : Act} {w : World} (s : Sat N F env h a w) {y z : Operand} {k k' : IntKind} {m len cap : Nat} (hm : ev env y = some (.v (.int k (m : Int)))) (hz : ev env z = some (.v (.int k' (m : Int)))) (h2 : m ≤ cap) (b : Bool) (w' : World) :
   (Instr.sliceBounds b len cap none (some (a.eval y)) (some (a.eval z))).run P w' = .ok (0, m, m) w' := by
 have e1 : ∀ (y : Operand) (k : IntKind) (n : Nat), ev env y = some (.v (.int k (n : Int))) → a.eval y = .int k n := fun y k n hy => by
   have := s.ev hy
   generalize a.eval y = v at this
   cases this
   rfl
 have e2 : ∀ (k : IntKind) (n y : Nat) (c : BoundsCode), n ≤ y → (Instr.sliceBound (.int k n) y c).run P w' = .ok n w' := fun k n y c hn => by
   simp only [Instr.sliceBound, asIntOf, Sem.run_bind, Sem.run_pure, Result.andThen_ok]
   rw [if_pos ⟨by omega, by omega⟩]
   simp
 unfold Instr.sliceBounds
 simp only [e1 y k m hm, e1 z k' m hz, Sem.run_bind, Sem.run_pure, Result.andThen_ok, e2 k' m cap _ h2, e2 k m m _ (Nat.le_refl _)]
theorem pSlice3 {o : Oper} {t : TypeId} {x y z : Operand} {k k' : IntKind} {sz m : Nat} {es : List (List AV)} (ht : elemSize P t = some sz) (ho : o.op = .slice t x none (some y) (some z) := by rfl) (hx : ev env x = some (.sl sz es) := by rfl) (hy : ev env y = some (.v (.int k (m : Int))) := by rfl) (hz : ev env z = some (.v (.int k' (m : Int))) := by rfl) (h2 : m ≤ es.length := by first | omega | (simp only [List.length_map]; omega)) : APure P N o env (.sl sz (es.take m)) := by
 intro F h a w st
 have hr := st.ev hx
 generalize hv : a.eval x = v at hr
 obtain ⟨el, g, hu, hs⟩ := elemSize_spec ht
 have hlen : (es.take m).length = m := by simp; omega
 cases hr with
 | sl0 _ a0 c =>
   simp only [List.length_nil, Nat.le_zero] at h2
   obtain rfl : m = 0 := h2
   refine ⟨.slice (if (0 : Nat) = 0 then a0 else a0.map (·.add (0 * sz))) 0 0, .sl0 _ _ _, fun w' => ?_⟩
   simp only [execOp, ho, hv, Instr.sliceAt, Instr.slice, Sem.run_bind, Sem.run_pure, Result.andThen_ok, run_underlying' hu, Option.map_none, Option.map_some]
   have := run_bounds3 (P := P) st (len := 0) (cap := c) hy hz (by omega) true w'
   simp only [this, Result.andThen_ok, run_sizeOf hs, Sem.run_bind, Sem.run_pure]
   try simp
 | sl _ _ b p c X hF hc hz' hX h1' hR =>
   have hrun : ∀ w', (execOp a.eval o).run P w' = .ok (.value (.slice (some ⟨b, p, none⟩) m m)) w' := fun w' => by
     simp only [execOp, ho, hv, Instr.sliceAt, Instr.slice, Sem.run_bind, Sem.run_pure, Result.andThen_ok, run_underlying' hu, Option.map_none, Option.map_some]
     have := run_bounds3 (P := P) st (len := es.length) (cap := c) hy hz (by omega) true w'
     simp only [this, Result.andThen_ok, run_sizeOf hs, Sem.run_bind, Sem.run_pure]
     simp [add_none]
   by_cases hm0 : m = 0
   ·subst hm0
    refine ⟨_, ?_, hrun⟩
    rw [List.take_zero]
    exact .sl0 _ _ _
   ·refine ⟨_, ?_, hrun⟩
    have hget : ∀ i, i < m → (es.take m)[i]? = es[i]? := fun i hi => by rw [List.getElem?_take, if_pos hi]
    have := Rep.sl (F := F) (w := w) sz (es.take m) b p m X hF (by rw [hlen]; exact Nat.le_refl _) (fun e he => hz' e (List.mem_of_mem_take he))
      (fun i j hi hj => by rw [hlen] at hi; exact hX i j (by omega) hj)
      (fun i j hi hj => h1' _ _ (by rw [hlen] at hi; omega) hj)
      (fun i j e av hi hj => by
        have hlt : i < m := by rw [← hlen]; exact (List.getElem?_eq_some_iff.1 hi).1
        rw [hget i hlt] at hi
        exact hR i j e av hi hj)
    rw [hlen] at this
    exact this
theorem pCap {o : Oper} {t : TypeId} {x : Operand} {ad : Option Addr} {n c : Nat} (ht : isSl P t = true) (ho : o.op = .call ⟨.builtin .cap, #[x], #[t]⟩ := by rfl) (hx : ev env x = some (.v (.slice ad n c)) := by rfl) : APure P N o env (.int c) := by
 obtain ⟨e, hu⟩ := isSl_spec ht
 intro F h a w st
 have hr := st.ev hx
 generalize hv : a.eval x = v at hr
 cases hr
 refine ⟨_, .v _, fun w' => ?_⟩
 simp only [execOp, ho, resolve, Sem.run_bind, Sem.run_pure, Result.andThen_ok, invoke, builtin]
 simp [hv, Builtin.cap_, run_underlying' hu, goInt]
/-- Noughts behind nothing. -/
theorem oAppNilZ {o : Oper} {t t' e : TypeId} {x y : Operand} {k kn : IntKind} {sz by_ d m : Nat} {z : Value} {h' : List HA} (zs : List AV) (ho : o.op = .call ⟨.builtin .append, #[x, y], #[t, t']⟩) (hd : o.dst = some d) (hN : d < N) (hx : ev env x = some (.v (.slice none 0 0))) (hy : ev env y = some (.v (.int k (m : Int))))
   (hs : Spl h (.sl none 0 e sz []) h') (ht : elemOf P t = some (e, sz, by_)) (hti' : intKindOf P t' = some kn) (hz : zeroOf P e = some z) (h1 : z.cells.toList.all (·.oneCell') = true) (hzs : zs.length = sz)
   (hrep : ∀ (F : Nat → Prop) (w : World) (j : Nat) av x, zs[j]? = some av → z.cells[j]? = some x → Rep F w av x) (h0 : 0 < m) (hb : m * by_ ≤ 140737488355328) (hmx : m ≤ 1000000000)
   (hk : ∀ b c, K ((d, .v (slV (some b) m c)) :: env) (.sl (some b) c e sz (List.replicate m zs) :: h')) : AOp P N o env h K := by
 intro B F a w Q s ex hdef
 obtain ⟨hu, i, z', hi, hzz, hisz, hzs', hsz0, hby⟩ := elemOf_spec ht
 have hze : z' = z := by
   unfold zeroOf at hz
   rw [hi, Option.bind_some, hzz] at hz
   exact Option.some.inj hz
 subst hze
 have hxv := s.ev hx
 have hyv := s.ev hy
 generalize hv : a.eval x = vx at hxv
 generalize hv2 : a.eval y = vy at hyv
 cases hxv
 cases hyv
 have hti := intKindOf_spec hti'
 have hr := run_append_nil_zeros (P := P) w t t' o.type e i z' k kn hu hti hi hzz m h0 (by omega) (by omega) (by rw [hby]; omega)
 have hcell : ∀ i j, i < m → j < sz → (Builtin.zeroCells z'.cells m)[i * sz + j]? = z'.cells[j]? := fun i j hi hj => by
   have hlt := idx_lt hi hj
   have hm : (i * sz + j) % z'.cells.size = j := by rw [hzs', Nat.mul_comm, Nat.mul_add_mod, Nat.mod_eq_of_lt hj]
   simp only [Builtin.zeroCells, Array.getElem?_map, Array.getElem?_range, hzs', hlt, if_true, Option.map_some]
   rw [hzs'] at hm
   rw [hm]
   simp [hzs', hj]
 have hzl : (Builtin.zeroCells z'.cells m).toList.length = m * sz := by
   rw [Array.length_toList, size_zeroCells', hzs']
 have hge := grownCap_ge w m 0 e
 have hcm : grownCap w m 0 e ≤ maxLen := grownCap_le_maxLen w m 0 e (by simp only [maxLen]; omega)
 obtain ⟨hR, hE⟩ := s.r.appended (w' := w.drew.alloc (.cells (Builtin.zeroCells z'.cells m ++ Builtin.zeroCells z'.cells (grownCap w m 0 e - m)) e)) (g' := some w.heap.size) (c' := grownCap w m 0 e) (ns := List.replicate m zs) (xs := []) (news := (Builtin.zeroCells z'.cells m).toList) hs
   (by
     simp only [List.length_nil, List.length_replicate, Nat.zero_add, List.nil_append]
     refine ⟨hzl, .inr ⟨w.heap.size, _, _, rfl, Nat.zero_le _, heap_new w.drew _, hge, hcm, ?_, ?_⟩⟩
     ·simp only [Array.size_append, size_zeroCells', hzs', ← Nat.add_mul]
      congr 1
      omega
     ·simp only [Array.toList_append]
      rw [← hzl]
      exact List.take_left)
   (by simp) (by
     intro y hy
     rw [List.nil_append] at hy
     rw [List.eq_of_mem_replicate hy, hzs]) (by
     intro x hx
     rw [List.nil_append] at hx
     obtain ⟨q, hq⟩ := List.mem_iff_getElem?.1 hx
     have hq2 : (Builtin.zeroCells z'.cells m)[q]? = some x := by simpa using hq
     have hqlt : q < m * sz := by have := (List.getElem?_eq_some_iff.1 hq).1; rwa [hzl] at this
     have hdiv : q / sz < m := (Nat.div_lt_iff_lt_mul hsz0).2 hqlt
     have := hcell (q / sz) (q % sz) hdiv (Nat.mod_lt _ hsz0)
     rw [Nat.mul_comm (q / sz) sz, Nat.div_add_mod, hq2] at this
     exact List.all_eq_true.1 h1 x (by simpa using Array.mem_of_getElem? this.symm))
   (fun i j y av x hi => by simp at hi)
   (fun i j y av x hi hj hx => by
     have hil : i < m := by have := (List.getElem?_eq_some_iff.1 hi).1; simpa using this
     have hy : y = zs := List.eq_of_mem_replicate (List.mem_of_getElem? hi)
     subst hy
     have hjl : j < sz := by rw [← hzs]; exact (List.getElem?_eq_some_iff.1 hj).1
     have hx2 : (Builtin.zeroCells z'.cells m)[i * sz + j]? = some x := by simpa using hx
     rw [hcell i j hil hjl] at hx2
     exact hrep F _ j av x hj hx2)
   rfl rfl rfl (by simp) (fun b hb => .inr (by simp at hb; subst hb; simp)) (fun b hb _ => heap_old w.drew _ b hb) (Nat.le_succ _)
 have hrun2 : (execOp a.eval o).run P w = .ok (.value (slV (some w.heap.size) m (grownCap w m 0 e))) (w.drew.alloc (.cells (Builtin.zeroCells z'.cells m ++ Builtin.zeroCells z'.cells (grownCap w m 0 e - m)) e)) := by
   simp only [execOp, ho, resolve, Sem.run_bind, Sem.run_pure, Result.andThen_ok, invoke, builtin]
   simp only [List.map_toArray, List.map_cons, List.map_nil, hv, hv2, hr, Result.andThen_ok]
   rfl
 unfold Oper.wp
 rw [hrun2, Oper.upon_value, hd]
 rw [List.nil_append] at hR hE
 exact ⟨hdef, F, _, _, hk _ _, s.put hE hR hN (.v _), ex.trans hE⟩
end A
end Go.Proofs.YthkgdhamnpiagaaGreat
namespace Go.Proofs.YthkgdhamnpiagaaGreat
namespace A
theorem es_50 : elemSize Tryz.prog 50 = some 1 := by kernel_rfl
theorem fd_331_0 : fieldOf Tryz.prog 331 0 = some (0, 1, false) := by kernel_rfl
theorem fd_331_1 : fieldOf Tryz.prog 331 1 = some (1, 1, false) := by kernel_rfl
theorem ik_172 : intKindOf Tryz.prog 172 = some .u64 := by kernel_rfl
theorem ik_3 : intKindOf Tryz.prog 3 = some .i64 := by kernel_rfl
theorem ik_5 : intKindOf Tryz.prog 5 = some .u8 := by kernel_rfl
theorem pt_231 : isPtrT Tryz.prog 231 = true := by kernel_rfl
theorem st_331 : structPlaces Tryz.prog 331 = some [(0, 1), (1, 1)] := by kernel_rfl
theorem ze_331 : zeroOf Tryz.prog 331 = some (.agg #[.slice none 0 0, .bool false]) := by kernel_rfl
/- slices.Clone[[]byte,byte] -/
set_option maxRecDepth 100000 in
set_option maxHeartbeats 400000 in
theorem clone_B {l : List Nat} (hl : l.length ≤ 1000000 := by omega) : Triple Tryz.prog 109 [.sl 1 (l.map by1)] [] (Own 5 1 (l.map by1) []) := by
 refine triple_of Tryz.func109 rfl (by kernel_rfl) rfl (by simp) ?_
 refine aSeq ?_
 refine aReg ?_
 refine sp pMa ?_
 refine oNil ?_
 refine aSeq ?_
 refine aSeq ?_
 refine aReg ?_
 refine sp pM ?_
 refine sa ?_
 refine oSlNil rfl (.inl rfl) rfl sl_50 rfl (by decide) (fun q4 hq4 => ?_)
 refine oNil ?_
 refine aCond rfl (fun c4 => ?_) (fun c4 => ?_)
 ·skip
  refine aSeq ?_
  refine aWeak (weak_nil 5 1) ?_
  refine aReg ?_
  refine sp pMa ?_
  refine oNil ?_
  refine aRet ?_
  have he : l = [] := by
    cases l with
    | nil => rfl
    | cons x l => have := hq4 (by simp); simp_all
  subst he
  exact ⟨_, _, _, rfl, .cons .hd .nil, none, 0, rfl, rfl⟩
 ·skip
  refine aSkip ?_
  refine aSeq ?_
  refine aReg ?_
  refine sq ?_
  refine qLit (l := []) rfl rfl (by decide) us_50 ty_5 ze_5 rfl (by decide) (by decide) rfl rfl rfl (fun b5 => ?_)
  refine sp pM ?_
  refine sa ?_
  first | refine oAppT (out := []) _ rfl rfl (by repeat constructor) (.inl rfl) el_50 sl_50 (fun g7 k7 => ?_) | refine oAppT (out := []) _ rfl rfl (by repeat constructor) (srcOwn rfl (by repeat constructor) (by first | rfl | simp)) el_50 sl_50 (fun g7 k7 => ?_)
  refine sp pMa ?_
  refine oNil ?_
  refine aRet ?_
  refine finOwn rfl ?_
  rfl
def RS.take (k : Nat) (s : RS) : BS × RS := if s.w then ([], s) else if s.b.length < k then ([], ⟨s.b, true⟩) else (s.b.take k, ⟨s.b.drop k, false⟩)
theorem num_take (k : Nat) (s : RS) : (s.num k).1 = ofBe (s.take k).1 ∧ (s.num k).2 = (s.take k).2 := by
 unfold RS.num RS.take
 split
 ·exact ⟨rfl, rfl⟩
 ·split <;> exact ⟨rfl, rfl⟩
theorem take_len (k : Nat) (s : RS) : (s.take k).1.length ≤ k := by
 unfold RS.take
 split
 ·simp
 ·split
  ·simp
  ·simp only [List.length_take]; omega
theorem take_okB (k : Nat) {s : RS} (h : BOk s.b) : BOk (s.take k).1 := by
 unfold RS.take
 split
 ·intro x hx; simp at hx
 ·split
  ·intro x hx; simp at hx
  ·intro x hx; exact h x (List.mem_of_mem_take hx)
theorem ofBe_take {b : BS} {i x : Nat} (h : b[i]? = some x) : ofBe (b.take (i + 1)) = ofBe (b.take i) * 256 + x := by rw [take_step h, ofBe_snoc]
theorem ofBe_bound : ∀ (k i : Nat) {b : BS}, BOk b → i < k → k ≤ 8 → ofBe (b.take i) * 256 < 18446744073709551616 - 255 := fun k i b hb hi hk => by
 have h1 : ofBe (b.take i) < 256 ^ (b.take i).length := ofBe_lt _ (fun x hx => hb x (List.mem_of_mem_take hx)) rfl
 have h2 : (b.take i).length ≤ 7 := by rw [List.length_take]; omega
 have h3 : 256 ^ (b.take i).length ≤ 256 ^ 7 := Nat.pow_le_pow_right (by decide) h2
 have h4 : (256 : Nat) ^ 7 = 72057594037927936 := by decide
 omega
theorem be_take {w n j : Nat} (h : j < w) : (be w n).take (j + 1) = (be w n).take j ++ [n / 2 ^ (8 * (w - 1 - j)) % 256] := by
 have h1 := be_get (w := w) (n := n) h
 rw [take_step h1, show (256 : Nat) = 2 ^ 8 from rfl, ← Nat.pow_mul]
theorem be_all (w n : Nat) : (be w n).take w = be w n := List.take_of_length_le (by rw [be_len]; exact Nat.le_refl _)
theorem text_eq (s : RS) : s.text = if s.w then ([], s) else if ((s.num 2).2.take (s.num 2).1).2.w then ([], ⟨s.b, true⟩) else (s.num 2).2.take (s.num 2).1 := by
 unfold RS.text
 split
 ·rfl
 ·rename_i h
  unfold RS.take
  simp only
  by_cases h1 : (s.num 2).2.w = true
  ·rw [if_pos h1, if_pos h1]; simp only; rw [if_pos h1]
  ·rw [if_neg h1, if_neg h1]
   by_cases h2 : (s.num 2).2.b.length < (s.num 2).1
   ·rw [if_pos h2, if_pos h2]; simp
   ·rw [if_neg h2, if_neg h2]; simp
/- octet.may -/
set_option maxRecDepth 100000 in
set_option maxHeartbeats 400000 in
theorem oct_may {w : Nat} (h1 : 1 ≤ w) (h2 : w ≤ 8) : Triple Tryz.prog 190 [.int w] [] (Is (.v (.bool true)) []) := by
 refine triple_of Tryz.func190 rfl (by kernel_rfl) rfl (by simp) ?_
 refine aSeq ?_
 refine aReg ?_
 refine sp pMa ?_
 refine oNil ?_
 refine aSeq ?_
 refine aReg ?_
 refine sp pM ?_
 refine sp pB ?_
 refine sp pM ?_
 refine oSplitDec 5 rfl (fun c5 => ?_) (fun c5 => ?_)
 ·skip
  refine gp pM ?_
  refine gp pB ?_
  refine sp pK ?_
  refine sp pMa ?_
  refine oNil ?_
  refine aRet ?_
  refine finIs rfl ?_
  simp_all [retOf]
  omega
 ·skip
  refine gf ?_
  refine gf ?_
  refine sp pK ?_
  refine sp pMa ?_
  refine oNil ?_
  refine aRet ?_
  refine finIs rfl ?_
  simp_all [retOf]
  omega
/- octet.Num -/
set_option maxRecDepth 100000 in
set_option maxHeartbeats 400000 in
theorem oct_Num {b : BS} {w n : Nat} (hb : b.length ≤ 1000000 := by omega) (h1 : 1 ≤ w := by omega) (h2 : w ≤ 8 := by omega) : Triple Tryz.prog 91 [.sl 1 (b.map by1), .int w, .v (.int .u64 n)] [] (Own 5 1 ((b ++ be w n).map by1) []) := by
 refine triple_of Tryz.func91 rfl (by kernel_rfl) rfl (by simp) ?_
 refine aSeq ?_
 refine aReg ?_
 refine sp pMa ?_
 refine oNil ?_
 refine aSeq ?_
 refine aReg ?_
 refine sp pM ?_
 refine sa ?_
 first | refine coM rfl rfl rfl (clone_B (l := b) hb) (fun g10 k10 => ?_) | refine co rfl rfl rfl (clone_B (l := b) hb) (fun g10 k10 => ?_)
 refine sp pMa ?_
 refine oNil ?_
 refine aSeq ?_
 refine aSeq ?_
 refine aReg ?_
 refine sp pM ?_
 refine sq ?_
 refine cv rfl rfl rfl (lents_refl _) (oct_may h1 h2) ?_
 refine sp pNo ?_
 refine oNil ?_
 refine aCondF rfl ?_
 refine aSkip ?_
 refine aSeq ?_
 refine aSeq ?_
 refine aReg ?_
 refine sp pM ?_
 refine sp pSu ?_
 refine sp pMa ?_
 refine oNil ?_
 refine aBlock ?_
 refine loopF (α := Nat × BS × Option Nat × Nat) (kept := [(2, _)]) (fun (j, out, g, c) => j ≤ w ∧ out = b ++ (be w n).take j) (fun (j, out, g, c) => [(8, .int ((w : Int) - 1 - j)), (7, .v (slV g out.length c))]) (fun (j, out, g, c) => [.sl g c 5 1 (out.map by1)]) (fun (j, out, g, c) => w - j) (0, b, _, _) ?_ ⟨gInt rfl (by first | rfl | omega | simp), gLen rfl (by first | rfl | simp | (simp; omega)), rfl, trivial⟩ (by repeat constructor) ?_
 ·skip
  exact ⟨by omega, by simp⟩
 ·rintro ⟨j, out, g, c⟩ ⟨hj, ho⟩
  refine aSeq ?_
  refine aSeq ?_
  refine aReg ?_
  refine sp pM ?_
  refine sp pB ?_
  refine oNil ?_
  refine aCondDec rfl (fun c18 => ?_) (fun c18 => ?_)
  ·skip
   refine aSkip ?_
   refine aSeq ?_
   refine aBlock ?_
   have hol : out.length ≤ b.length + 8 := by rw [ho, List.length_append, List.length_take, be_len]; omega
   refine aReg ?_
   refine sp pM ?_
   refine sp pM ?_
   refine sp pM ?_
   refine sp pMu ?_
   refine sp (pShrN (a := n) (r := 8 * (w - 1 - j)) rfl rfl rfl (by omega) (by show _ ≤ 64; omega)) ?_
   refine sp (pConv (n' := ((n / 2 ^ (8 * (w - 1 - j)) % 256 : Nat) : Int)) rfl rfl ik_172 ik_5 (u8_mod _)) ?_
   refine sq ?_
   refine qLit (l := [_]) rfl rfl (by decide) us_50 ty_5 ze_5 rfl (by decide) (by decide) rfl rfl rfl (fun b27 => ?_)
   refine sa ?_
   refine oAppT ([n / 2 ^ (8 * (w - 1 - j)) % 256] : BS) rfl rfl (by repeat constructor) (srcOwn rfl (by repeat constructor) rfl) el_50 sl_50 (fun g28 k28 => ?_)
   refine sp pMa ?_
   refine oNil ?_
   refine aReg ?_
   refine sp pM ?_
   refine sp pSu ?_
   refine sp pMa ?_
   refine oNil ?_
   refine ⟨(j + 1, _, _, _), ?_, by (try dsimp only); omega, ⟨gInt rfl (by first | rfl | omega | simp), gLen rfl (by first | rfl | simp | (simp; omega)), rfl, trivial⟩, _, (by repeat constructor)⟩
   refine ⟨by omega, ?_⟩
   rw [be_take (by omega), ← List.append_assoc, ← ho]
  ·skip
   refine aExit rfl ?_
   refine aSeq ?_
   refine aReg ?_
   refine sp pM ?_
   refine sp pMa ?_
   refine oNil ?_
   refine aRet ?_
   refine finOwn rfl ?_
   obtain rfl : j = w := by omega
   rw [ho, be_all]
/- octet.Text -/
set_option maxRecDepth 100000 in
set_option maxHeartbeats 400000 in
theorem oct_Text {b t : BS} (hb : b.length ≤ 1000000 := by omega) (ht : t.length ≤ 65535 := by omega) : Triple Tryz.prog 268 [.sl 1 (b.map by1), .sl 1 (t.map by1)] [] (fun q h' => ∃ g c, q = .tup [.v (slV g (b ++ be 2 t.length ++ t).length c), .v (.bool true)] ∧ h' = [.sl g c 5 1 ((b ++ be 2 t.length ++ t).map by1)]) := by
 refine triple_of Tryz.func268 rfl (by kernel_rfl) rfl (by simp) ?_
 refine aSeq ?_
 refine aReg ?_
 refine sp pMa ?_
 refine sp pMa ?_
 refine oNil ?_
 refine aSeq ?_
 refine aSeq ?_
 refine aReg ?_
 refine sp pM ?_
 refine sp (by first | exact pLm sl_50 | exact pLs sl_50) ?_
 refine sp (pBl (by exact pB) (show _ = false from decide_eq_false (by simp; omega))) ?_
 refine oNil ?_
 refine aCondF rfl ?_
 refine aSkip ?_
 refine aSeq ?_
 have hbl := be_len 2 t.length
 refine aReg ?_
 refine sp pM ?_
 refine sp pM ?_
 refine sp (by first | exact pLm sl_50 | exact pLs sl_50) ?_
 refine sp (by first | exact pCvK ik_3 ik_172 | exact pConv rfl rfl ik_3 ik_172 rfl) ?_
 refine sa ?_
 first | refine coM rfl rfl rfl (oct_Num (b := b) (w := 2) (n := t.length) hb (by omega) (by omega)) (fun g15 k15 => ?_) | refine co rfl rfl rfl (oct_Num (b := b) (w := 2) (n := t.length) hb (by omega) (by omega)) (fun g15 k15 => ?_)
 refine sp pM ?_
 refine sa ?_
 first | refine oAppT _ rfl rfl (by repeat constructor) (.inl rfl) el_50 sl_50 (fun g17 k17 => ?_) | refine oAppT _ rfl rfl (by repeat constructor) (srcOwn rfl (by repeat constructor) (by first | rfl | simp)) el_50 sl_50 (fun g17 k17 => ?_)
 refine sp pMa ?_
 refine sp pMa ?_
 refine oNil ?_
 refine aRet ?_
 exact ⟨_, [_], [], rfl, .cons .hd .nil, g17, k17, rfl, rfl⟩
/- octet.Read -/
set_option maxRecDepth 100000 in
set_option maxHeartbeats 400000 in
theorem rd_Read {b : BS} (hb : b.length ≤ 1000000 := by omega) : Triple Tryz.prog 112 [.sl 1 (b.map by1)] [] (fun q h' => ∃ rb, q = .v (.pointer (some ⟨rb, 0, none⟩)) ∧ h' = [.box rb [bsA (⟨b, false⟩ : RS).b, .v (.bool (⟨b, false⟩ : RS).w)]]) := by
 refine triple_of Tryz.func112 rfl (by kernel_rfl) rfl (by simp) ?_
 refine aSeq ?_
 refine aReg ?_
 refine sp pMa ?_
 refine oNil ?_
 refine aSeq ?_
 refine aReg ?_
 refine sp pM ?_
 refine sa ?_
 first | refine coM rfl rfl rfl (clone_B (l := b) hb) (fun g4 k4 => ?_) | refine co rfl rfl rfl (clone_B (l := b) hb) (fun g4 k4 => ?_)
 refine oWeak (weak_settle (k := 4) rfl (by repeat constructor) (by simp)) ?_
 refine sp (pBuild rfl st_331 ze_331 rfl rfl rfl rfl) ?_
 refine sq ?_
 refine qBox rfl rfl (by decide) rfl rfl (fun b6 => ?_)
 refine sp pMa ?_
 refine oNil ?_
 refine aRet ?_
 exact ⟨_, [_], [], rfl, .cons .hd .nil, b6, rfl, rfl⟩
/- octet.Reader).take -/
set_option maxRecDepth 100000 in
set_option maxHeartbeats 400000 in
theorem rd_take {rb : Nat} {s : RS} {n : Nat} (hb : s.b.length ≤ 1000000 := by omega) : Triple Tryz.prog 209 [.v (.pointer (some ⟨rb, 0, none⟩)), .int n] [.box rb [bsA s.b, .v (.bool s.w)]] (Is (.sl 1 ((s.take n).1.map by1)) [.box rb [bsA (s.take n).2.b, .v (.bool (s.take n).2.w)]]) := by
 refine triple_of Tryz.func209 rfl (by kernel_rfl) rfl (by simp) ?_
 refine aSeq ?_
 refine aReg ?_
 refine sp pMa ?_
 refine oNil ?_
 refine aSeq ?_
 refine aSeq ?_
 refine aReg ?_
 refine sp pM ?_
 refine sp (by first | exact pPtrNil rfl (.inl rfl) rfl pt_231 rfl (rfl : _ = false) | exact pSpNil rfl (.inl rfl) rfl pt_231 (rfl : _ = false)) ?_
 refine sp pM ?_
 refine gp pM ?_
 refine gp pNv ?_
 refine gp (pFb fd_331_1) ?_
 refine gr (rB1 ty_4) ?_
 refine sp pK ?_
 refine oNil ?_
 refine aCond rfl (fun c13 => ?_) (fun c13 => ?_)
 ·skip
  refine aSeq ?_
  refine aReg ?_
  refine sp pMa ?_
  refine oNil ?_
  have hw : s.w = true := by simp_all
  have hE : s.take n = ([], s) := by unfold RS.take; rw [if_pos hw]
  rw [hE]
  refine aWeak (weak_cast (k := 4) (b := .sl 1 []) rfl cast_nil) ?_
  refine aRet ?_
  exact finIs rfl rfl
 ·skip
  refine aSkip ?_
  refine aSeq ?_
  refine aSeq ?_
  refine aReg ?_
  refine sp pM ?_
  refine sp pM ?_
  refine sp pNv ?_
  refine sp (pFb fd_331_0) ?_
  refine sr (rB1 ty_50) ?_
  refine sp (by first | exact pLm sl_50 | exact pLs sl_50 | exact pLv sl_50) ?_
  refine sp pB ?_
  refine oNil ?_
  refine aCondDec rfl (fun c20 => ?_) (fun c20 => ?_)
  ·skip
   refine aSeq ?_
   refine aReg ?_
   refine sp pM ?_
   refine sp pNv ?_
   refine sp (pFb fd_331_1) ?_
   refine sa ?_
   refine oStB rfl rfl rfl rfl (by repeat constructor) ty_4 rfl (Nat.le_of_ble_eq_true rfl) rfl ?_
   refine oNil ?_
   refine aSeq ?_
   refine aReg ?_
   refine sp pMa ?_
   refine oNil ?_
   have hw : s.w = false := by simp_all
   have hn : s.b.length < n := by omega
   have hE : s.take n = ([], ⟨s.b, true⟩) := by unfold RS.take; rw [hw, if_neg (by simp), if_pos hn]
   rw [hE]
   refine aWeak (weak_cast (k := 4) (b := .sl 1 []) rfl cast_nil) ?_
   refine aRet ?_
   exact finIs rfl rfl
  ·skip
   refine aSkip ?_
   refine aSeq ?_
   have hw : s.w = false := by simp_all
   have hn : ¬ s.b.length < n := by omega
   refine aReg ?_
   refine sp pM ?_
   refine sp pNv ?_
   refine sp (pFb fd_331_0) ?_
   refine sr (rB1 ty_50) ?_
   refine sp pM ?_
   refine sp pM ?_
   refine sp (pSlice3 (m := n) es_50) ?_
   rw [← List.map_take]
   refine sp pMa ?_
   refine oNil ?_
   refine aSeq ?_
   refine aReg ?_
   refine sp pM ?_
   refine sp pM ?_
   refine sp pNv ?_
   refine sp (pFb fd_331_0) ?_
   refine sr (rB1 ty_50) ?_
   refine sp pM ?_
   refine sp (pSlice rfl rfl es_50 (bdI rfl) (bdN rfl) (by first | omega | (simp only [List.length_map]; omega)) (by first | omega | (simp only [List.length_map]; omega))) ?_
   rw [show ((s.b.map by1).drop n).take ((s.b.map by1).length - n) = (s.b.drop n).map by1 by rw [List.map_drop, List.take_of_length_le]; simp]
   refine sp pNv ?_
   refine sp (pFb fd_331_0) ?_
   refine sa ?_
   refine oStB rfl rfl rfl rfl (by repeat constructor) ty_50 rfl (Nat.le_of_ble_eq_true rfl) rfl ?_
   refine oNil ?_
   refine aSeq ?_
   refine aReg ?_
   refine sp pM ?_
   refine sp pMa ?_
   refine oNil ?_
   have hE : s.take n = (s.b.take n, ⟨s.b.drop n, false⟩) := by unfold RS.take; rw [hw, if_neg (by simp), if_neg hn]
   rw [hE, hw]
   refine aRet ?_
   exact finIs rfl rfl
/- octet.Reader).Num -/
set_option maxRecDepth 100000 in
set_option maxHeartbeats 400000 in
theorem rd_Num {rb : Nat} {s : RS} {k : Nat} (hk : BOk s.b) (hb : s.b.length ≤ 1000000 := by omega) (h1 : 1 ≤ k := by omega) (h2 : k ≤ 8 := by omega) : Triple Tryz.prog 113 [.v (.pointer (some ⟨rb, 0, none⟩)), .int k] [.box rb [bsA s.b, .v (.bool s.w)]] (Is (.v (.int .u64 ((s.num k).1 : Int))) [.box rb [bsA (s.num k).2.b, .v (.bool (s.num k).2.w)]]) := by
 have hl := take_len k s
 have hok := take_okB k hk
 refine triple_of Tryz.func113 rfl (by kernel_rfl) rfl (by simp) ?_
 refine aSeq ?_
 refine aReg ?_
 refine sp pMa ?_
 refine oNil ?_
 refine aSeq ?_
 refine aSeq ?_
 refine aReg ?_
 refine sp pM ?_
 refine sq ?_
 refine cv rfl rfl rfl (lents_refl _) (oct_may h1 h2) ?_
 refine sp pNo ?_
 refine oNil ?_
 refine aCondF rfl ?_
 refine aSkip ?_
 refine aSeq ?_
 refine aReg ?_
 refine sp pMa ?_
 refine oNil ?_
 refine aSeq ?_
 refine aSeq ?_
 refine aReg ?_
 refine sp pM ?_
 refine sp pM ?_
 refine sa ?_
 refine cai rfl rfl rfl (rd_take (rb := rb) (s := s) (n := k) hb) ?_
 refine sp (by first | exact pLm sl_50 | exact pLs sl_50 | exact pLv sl_50) ?_
 refine sp pM ?_
 refine oNil ?_
 refine aBlock ?_
 refine loopF (α := Nat × Nat) (kept := [(18, _), (19, _)]) (fun (i, n) => i ≤ (s.take k).1.length ∧ n = ofBe ((s.take k).1.take i)) (fun (i, n) => [(20, .int i), (5, .v (.int .u64 (n : Int)))]) (fun (i, n) => []) (fun (i, n) => (s.take k).1.length - i) (0, 0) ?_ ⟨gInt rfl (by first | rfl | omega | simp), rfl, rfl, rfl, trivial⟩ (by repeat constructor) ?_
 ·skip
  exact ⟨by omega, rfl⟩
 ·rintro ⟨i, n⟩ ⟨hi, hn⟩
  refine aSeq ?_
  refine aReg ?_
  refine sp pB ?_
  refine oNil ?_
  refine aSeq ?_
  refine aCondDec rfl (fun c21 => ?_) (fun c21 => ?_)
  ·skip
   refine aSkip ?_
   refine aSeq ?_
   refine aBlock ?_
   refine aSeq ?_
   obtain ⟨x, hx⟩ : ∃ z, (s.take k).1[i]? = some z := ⟨_, List.getElem?_eq_getElem (by omega)⟩
   have hxb := hok x (List.mem_of_getElem? hx)
   have hbd := ofBe_bound k i hok (by omega) h2
   refine aReg ?_
   first | refine sp (pIx es_50) ?_ | (refine obtSN 18 20 rfl rfl (by omega) (fun x22 hx22 => ?_); refine sp (pIs es_50 hx22) ?_) | (refine obtS 18 20 rfl rfl (by omega) (by omega) (fun x22 hx22 => ?_); refine sp (pIs es_50 hx22) ?_) | refine sp (pIo es_50) ?_
   refine sr (by first | exact rS1 ty_5 | exact rB1 ty_5 | exact rAr ty_5 | exact rArL ty_5 | exact rArR2 ty_5) ?_
   refine sp pMa ?_
   refine oNil ?_
   refine aReg ?_
   refine sp pM ?_
   refine sp pShlB ?_
   refine sp pM ?_
   refine sp (by first | exact pCvK ik_5 ik_172 | exact pConv rfl rfl ik_5 ik_172 rfl) ?_
   refine sp pOrLow ?_
   refine sp pMa ?_
   refine oNil ?_
   refine aReg ?_
   refine sp pAd ?_
   refine sp pM ?_
   refine oNil ?_
   refine ⟨(i + 1, _), ?_, by (try dsimp only); omega, ⟨gInt rfl (by first | rfl | omega | simp), rfl, rfl, rfl, trivial⟩, _, (by repeat constructor)⟩
   exact ⟨by omega, by rw [ofBe_take hx, ← hn]⟩
  ·skip
   refine aExit rfl ?_
   refine aSeq ?_
   refine aReg ?_
   refine sp pM ?_
   refine sp pMa ?_
   refine oNil ?_
   obtain rfl : i = (s.take k).1.length := by omega
   rw [List.take_length] at hn
   rw [(num_take k s).1, (num_take k s).2, ← hn]
   refine aRet ?_
   exact finIs rfl rfl
/- octet.Reader).Text -/
set_option maxRecDepth 100000 in
set_option maxHeartbeats 400000 in
theorem rd_Text {rb : Nat} {s : RS} (hk : BOk s.b) (hb : s.b.length ≤ 1000000 := by omega) : Triple Tryz.prog 114 [.v (.pointer (some ⟨rb, 0, none⟩))] [.box rb [bsA s.b, .v (.bool s.w)]] (Own 5 1 (s.text.1.map by1) [.box rb [bsA s.text.2.b, .v (.bool s.text.2.w)]]) := by
 refine triple_of Tryz.func114 rfl (by kernel_rfl) rfl (by simp) ?_
 refine aSeq ?_
 refine aReg ?_
 refine sp pMa ?_
 refine oNil ?_
 refine aSeq ?_
 refine aSeq ?_
 refine aReg ?_
 refine sp pM ?_
 refine sp (by first | exact pPtrNil rfl (.inl rfl) rfl pt_231 rfl (rfl : _ = false) | exact pSpNil rfl (.inl rfl) rfl pt_231 (rfl : _ = false)) ?_
 refine sp pM ?_
 refine gp pM ?_
 refine gp pNv ?_
 refine gp (pFb fd_331_1) ?_
 refine gr (rB1 ty_4) ?_
 refine sp pK ?_
 refine oNil ?_
 refine aCond rfl (fun c12 => ?_) (fun c12 => ?_)
 ·skip
  refine aSeq ?_
  refine aWeak (weak_nil 5 1) ?_
  refine aReg ?_
  refine sp pMa ?_
  refine oNil ?_
  have hE : s.text = ([], s) := by rw [text_eq, if_pos (by simp_all)]
  rw [hE]
  refine aRet ?_
  exact finOwn rfl rfl
 ·skip
  refine aSkip ?_
  refine aSeq ?_
  refine aReg ?_
  refine sp pM ?_
  refine sp pNv ?_
  refine sp (pFb fd_331_0) ?_
  refine sr (rB1 ty_50) ?_
  refine sp pMa ?_
  refine oNil ?_
  refine aSeq ?_
  have hn2 := RS.num_lt 2 hk
  have hnl := RS.num_len 2 s
  have htl := take_len (s.num 2).1 (s.num 2).2
  have htx := text_eq s
  refine aReg ?_
  refine sp pM ?_
  refine sp pM ?_
  refine sa ?_
  refine cai rfl rfl rfl (rd_Num (rb := rb) (s := s) (k := 2) hk hb (by omega) (by omega)) ?_
  refine sp (by first | exact pCvK ik_172 ik_3 | exact pConv rfl rfl ik_172 ik_3 rfl) ?_
  refine sa ?_
  refine cai rfl rfl rfl (rd_take (rb := rb) (s := (s.num 2).2) (n := (s.num 2).1) (by omega)) ?_
  refine sp pMa ?_
  refine oNil ?_
  refine aSeq ?_
  refine aSeq ?_
  refine aReg ?_
  refine sp pM ?_
  refine sp pNv ?_
  refine sp (pFb fd_331_1) ?_
  refine sr (rB1 ty_4) ?_
  refine oNil ?_
  refine aCond rfl (fun c25 => ?_) (fun c25 => ?_)
  ·skip
   refine aSeq ?_
   refine aReg ?_
   refine sp pM ?_
   refine sp pM ?_
   refine sp pNv ?_
   refine sp (pFb fd_331_0) ?_
   refine sa ?_
   refine oStB rfl rfl rfl rfl (by repeat constructor) ty_50 rfl (Nat.le_of_ble_eq_true rfl) rfl ?_
   refine oNil ?_
   refine aSeq ?_
   refine aWeak (weak_nil 5 1) ?_
   refine aReg ?_
   refine sp pMa ?_
   refine oNil ?_
   have hE : s.text = ([], ⟨s.b, true⟩) := by rw [htx, if_neg (by simp_all), if_pos (by simp_all)]
   have hw2 : ((s.num 2).2.take (s.num 2).1).2.w = true := by simp_all
   rw [hE, hw2]
   refine aRet ?_
   exact finOwn rfl rfl
  ·skip
   refine aSkip ?_
   refine aSeq ?_
   refine aReg ?_
   refine sp pM ?_
   refine sa ?_
   first | refine coM rfl rfl rfl (clone_B (l := ((s.num 2).2.take (s.num 2).1).1) (by omega)) (fun g31 k31 => ?_) | refine co rfl rfl rfl (clone_B (l := ((s.num 2).2.take (s.num 2).1).1) (by omega)) (fun g31 k31 => ?_)
   refine sp pMa ?_
   refine oNil ?_
   have hE : s.text = (s.num 2).2.take (s.num 2).1 := by rw [htx, if_neg (by simp_all), if_neg (by simp_all)]
   rw [hE]
   refine aRet ?_
   exact finOwn rfl rfl
theorem rd_Text_s {rb : Nat} {s : RS} (hk : BOk s.b) (hb : s.b.length ≤ 1000000 := by omega) : Triple Tryz.prog 114 [.v (.pointer (some ⟨rb, 0, none⟩))] [.box rb [bsA s.b, .v (.bool s.w)]] (Is (bsA s.text.1) [.box rb [bsA s.text.2.b, .v (.bool s.text.2.w)]]) := (rd_Text (rb := rb) hk hb).settle
theorem oct_Num_s {b : BS} {w n : Nat} (hb : b.length ≤ 1000000 := by omega) (h1 : 1 ≤ w := by omega) (h2 : w ≤ 8 := by omega) : Triple Tryz.prog 91 [.sl 1 (b.map by1), .int w, .v (.int .u64 n)] [] (Is (.sl 1 ((b ++ be w n).map by1)) []) := (oct_Num (b := b) (n := n) hb h1 h2).settle
/- octet.Reader).Left -/
set_option maxRecDepth 100000 in
set_option maxHeartbeats 400000 in
theorem rd_Left {rb : Nat} {s : RS} : Triple Tryz.prog 118 [.v (.pointer (some ⟨rb, 0, none⟩))] [.box rb [bsA s.b, .v (.bool s.w)]] (Is (.int s.b.length) [.box rb [bsA s.b, .v (.bool s.w)]]) := by
 refine triple_of Tryz.func118 rfl (by kernel_rfl) rfl (by simp) ?_
 refine aSeq ?_
 refine aReg ?_
 refine sp pMa ?_
 refine oNil ?_
 refine aSeq ?_
 refine aSeq ?_
 refine aReg ?_
 refine sp pM ?_
 refine sp (by first | exact pPtrNil rfl (.inl rfl) rfl pt_231 rfl (rfl : _ = false) | exact pSpNil rfl (.inl rfl) rfl pt_231 (rfl : _ = false)) ?_
 refine oNil ?_
 refine aCondF rfl ?_
 refine aSkip ?_
 refine aSeq ?_
 refine aReg ?_
 refine sp pM ?_
 refine sp pNv ?_
 refine sp (pFb fd_331_0) ?_
 refine sr (rB1 ty_50) ?_
 refine sp (by first | exact pLm sl_50 | exact pLs sl_50 | exact pLv sl_50) ?_
 refine sp pMa ?_
 refine oNil ?_
 refine aRet ?_
 refine finIs rfl ?_
 simp [retOf]
/- octet.Reader).Wrong -/
set_option maxRecDepth 100000 in
set_option maxHeartbeats 400000 in
theorem rd_Wrong {rb : Nat} {s : RS} : Triple Tryz.prog 115 [.v (.pointer (some ⟨rb, 0, none⟩))] [.box rb [bsA s.b, .v (.bool s.w)]] (Is (.v (.bool s.w)) [.box rb [bsA s.b, .v (.bool s.w)]]) := by
 refine triple_of Tryz.func115 rfl (by kernel_rfl) rfl (by simp) ?_
 refine aSeq ?_
 refine aReg ?_
 refine sp pMa ?_
 refine oNil ?_
 refine aSeq ?_
 refine aReg ?_
 refine sp pM ?_
 refine sp (by first | exact pPtrNil rfl (.inl rfl) rfl pt_231 rfl (rfl : _ = false) | exact pSpNil rfl (.inl rfl) rfl pt_231 (rfl : _ = false)) ?_
 refine sp pM ?_
 refine gp pM ?_
 refine gp pNv ?_
 refine gp (pFb fd_331_1) ?_
 refine gr (rB1 ty_4) ?_
 refine sp pK ?_
 refine sp pMa ?_
 refine oNil ?_
 refine aRet ?_
 refine finIs rfl ?_
 rfl
/- octet.Reader).Done -/
set_option maxRecDepth 100000 in
set_option maxHeartbeats 400000 in
theorem rd_Done {rb : Nat} {s : RS} : Triple Tryz.prog 135 [.v (.pointer (some ⟨rb, 0, none⟩))] [.box rb [bsA s.b, .v (.bool s.w)]] (Is (.v (.bool (!s.w && decide (s.b.length = 0)))) [.box rb [bsA s.b, .v (.bool s.w)]]) := by
 refine triple_of Tryz.func135 rfl (by kernel_rfl) rfl (by simp) ?_
 refine aSeq ?_
 refine aReg ?_
 refine sp pMa ?_
 refine oNil ?_
 refine aSeq ?_
 refine aReg ?_
 refine sp pM ?_
 refine sa ?_
 refine cai rfl rfl rfl (rd_Wrong (rb := rb) (s := s)) ?_
 refine sp pNo ?_
 refine sp pM ?_
 refine oSplitNot 6 rfl (fun c6 => ?_) (fun c6 => ?_)
 ·skip
  refine gp pM ?_
  refine gp pNv ?_
  refine gp (pFb fd_331_0) ?_
  refine gr (rB1 ty_50) ?_
  refine gp (by first | exact pLm sl_50 | exact pLs sl_50 | exact pLv sl_50) ?_
  refine gp pB ?_
  refine sp pK ?_
  refine sp pMa ?_
  refine oNil ?_
  refine aRet ?_
  refine finIs rfl ?_
  simp_all [retOf]
  try (rw [Bool.eq_iff_iff]; simp)
 ·skip
  refine gf ?_
  refine gf ?_
  refine gf ?_
  refine gf ?_
  refine gf ?_
  refine gf ?_
  refine sp pK ?_
  refine sp pMa ?_
  refine oNil ?_
  refine aRet ?_
  refine finIs rfl ?_
  simp_all [retOf]
  try (rw [Bool.eq_iff_iff]; simp)
end A
end Go.Proofs.YthkgdhamnpiagaaGreat
namespace Go.Proofs.YthkgdhamnpiagaaGreat
namespace A
theorem es_177 : elemSize Tryz.prog 177 = some 1 := by kernel_rfl
theorem ik_109 : intKindOf Tryz.prog 109 = some .u32 := by kernel_rfl
theorem sl_177 : isSl Tryz.prog 177 = true := by kernel_rfl
def rowC (b : BS) : List AV := [bsA b]
def crcOfs (l : List BS) : Nat := 4294967295 - l.foldl crcMore 4294967295
theorem crcOfs_one (b : BS) : crcOfs [b] = crcOf b := rfl
theorem crcMore_step {r : Nat} {b : BS} {i c : Nat} (h : b[i]? = some c) : crcMore r (b.take (i + 1)) = crcByte (crcMore r (b.take i)) c := by
 unfold crcMore
 rw [take_step h, List.foldl_append]
 rfl
theorem crcs_step {l : List BS} {i : Nat} {b : BS} {r : Nat} (h : l[i]? = some b) : (l.take (i + 1)).foldl crcMore r = crcMore ((l.take i).foldl crcMore r) b := by
 rw [take_step h, List.foldl_append]
 rfl
theorem crcs_lt : ∀ (l : List BS) {r : Nat}, (∀ b ∈ l, BOk b) → r < 4294967296 → l.foldl crcMore r < 4294967296
 | [], _, _, h => h
 | b :: t, r, hb, h => crcs_lt t (fun x hx => hb x (by simp [hx])) (crcMore_lt b (hb b (by simp)) h)
theorem be4 (n : Nat) : be 4 n = [n / 2 ^ 24 % 256, n / 2 ^ 16 % 256, n / 2 ^ 8 % 256, n % 256] := by
 show [n / 256 / 256 / 256 % 256, n / 256 / 256 % 256, n / 256 % 256, n % 256] = _
 simp only [Nat.div_div_eq_div_mul]
/- check.more -/
set_option maxRecDepth 100000 in
set_option maxHeartbeats 400000 in
theorem chk_more {r : Nat} {b : BS} (hb : b.length ≤ 1000000 := by omega) (hk : BOk b) (hr : r < 4294967296) : Triple Tryz.prog 279 [.v (.int .u32 r), .sl 1 (b.map by1)] [] (Is (.v (.int .u32 (crcMore r b : Nat))) []) := by
 refine triple_of Tryz.func279 rfl (by kernel_rfl) rfl (by simp) ?_
 refine aSeq ?_
 refine aReg ?_
 refine sp pMa ?_
 refine oNil ?_
 refine aSeq ?_
 refine aSeq ?_
 refine aReg ?_
 refine sp pM ?_
 refine sp (by first | exact pLm sl_50 | exact pLs sl_50) ?_
 refine sp pM ?_
 refine oNil ?_
 refine aBlock ?_
 refine loopF (α := Nat) (kept := [(8, _), (9, _)]) (fun i => i ≤ b.length) (fun i => [(10, .int i), (0, .v (.int .u32 (crcMore r (b.take i) : Nat)))]) (fun i => []) (fun i => b.length - i) 0 ?_ ⟨gInt rfl (by first | rfl | omega | simp), gAv rfl (by first | rfl | (rw [crcMore_step hx, ← hce, show 8 - k = 0 by omega]; rfl)), rfl, rfl, trivial⟩ (by repeat constructor) ?_
 ·skip
  omega
 ·rintro i hi
  refine aSeq ?_
  refine aReg ?_
  refine sp pB ?_
  refine oNil ?_
  refine aSeq ?_
  refine aCondDec rfl (fun c11 => ?_) (fun c11 => ?_)
  ·skip
   refine aSkip ?_
   refine aSeq ?_
   refine aBlock ?_
   refine aSeq ?_
   obtain ⟨x, hx⟩ : ∃ z, b[i]? = some z := ⟨_, List.getElem?_eq_getElem (by omega)⟩
   have hxb := hk x (List.mem_of_getElem? hx)
   have hrl := crcMore_lt (b.take i) (r := r) (fun y hy => hk y (List.mem_of_mem_take hy)) hr
   refine aReg ?_
   first | refine sp (pIx es_50) ?_ | (refine obtSN 8 10 rfl rfl (by omega) (fun x12 hx12 => ?_); refine sp (pIs es_50 hx12) ?_) | (refine obtS 8 10 rfl rfl (by omega) (by omega) (fun x12 hx12 => ?_); refine sp (pIs es_50 hx12) ?_) | refine sp (pIo es_50) ?_
   refine sr (rS1 ty_5) ?_
   refine sp pMa ?_
   refine oNil ?_
   refine aSeq ?_
   refine aReg ?_
   refine sp pM ?_
   refine sp pM ?_
   refine sp (by first | exact pCvK ik_5 ik_109 | exact pConv rfl rfl ik_5 ik_109 rfl) ?_
   refine sp (pXorU (a := crcMore r (b.take i)) (b := x)) ?_
   refine sp pMa ?_
   refine oNil ?_
   refine aSeq ?_
   refine aReg ?_
   refine sp pM ?_
   refine oNil ?_
   refine aBlock ?_
   refine loopF (α := Nat × Nat) (kept := [(8, _), (9, _), (10, _)]) (fun (k, cur) => k ≤ 8 ∧ cur < 4294967296 ∧ crc8 (8 - k) cur = crcByte (crcMore r (b.take i)) x) (fun (k, cur) => [(18, .int k), (0, .v (.int .u32 (cur : Nat)))]) (fun (k, cur) => []) (fun (k, cur) => 8 - k) (0, crcMore r (b.take i) ^^^ x) ?_ ⟨gInt rfl (by first | rfl | omega | simp), rfl, rfl, rfl, rfl, trivial⟩ (by repeat constructor) ?_
   ·skip
    exact ⟨by omega, Nat.xor_lt_two_pow (n := 32) hrl (by omega), rfl⟩
   ·rintro ⟨k, cur⟩ ⟨hk8, hcl, hce⟩
    refine aSeq ?_
    refine aReg ?_
    refine sp pB ?_
    refine oNil ?_
    refine aSeq ?_
    refine aCondDec rfl (fun c19 => ?_) (fun c19 => ?_)
    ·skip
     refine aSkip ?_
     refine aSeq ?_
     refine aBlock ?_
     refine aSeq ?_
     have hml := Nat.mod_lt cur (show 2 > 0 by decide)
     have hdl := Nat.div_le_self cur 2
     refine aReg ?_
     refine sp pM ?_
     refine sp (pLowU (a := cur)) ?_
     refine sp pMa ?_
     refine oNil ?_
     refine aSeq ?_
     refine aReg ?_
     refine sp pM ?_
     refine sp (pShrN (a := cur) (r := 1) rfl rfl rfl rfl (by decide)) ?_
     refine sp pMa ?_
     refine oNil ?_
     refine aReg ?_
     refine sp pM ?_
     refine sp pM ?_
     refine sp (pMulU (c := 3988292384) (b := cur % 2)) ?_
     refine sp (pXorU (a := cur / 2 ^ 1) (b := 3988292384 * (cur % 2))) ?_
     refine sp pMa ?_
     refine oNil ?_
     refine aReg ?_
     refine sp pAd ?_
     refine sp pM ?_
     refine oNil ?_
     refine ⟨(k + 1, crcBit cur), ?_, by (try dsimp only); omega, ⟨gInt rfl (by first | rfl | omega | simp), rfl, rfl, rfl, rfl, trivial⟩, _, (by repeat constructor)⟩
     refine ⟨by omega, crcBit_lt hcl, ?_⟩
     rw [← hce, show 8 - k = (8 - (k + 1)) + 1 by omega]
     rfl
    ·skip
     refine aExit rfl ?_
     refine aReg ?_
     refine sp pAd ?_
     refine sp pM ?_
     refine oNil ?_
     refine ⟨i + 1, ?_, by (try dsimp only); omega, ⟨gInt rfl (by first | rfl | omega | simp), gAv rfl (by first | rfl | (rw [crcMore_step hx, ← hce, show 8 - k = 0 by omega]; rfl)), rfl, rfl, trivial⟩, _, (by repeat constructor)⟩
     omega
  ·skip
   refine aExit rfl ?_
   refine aSeq ?_
   refine aReg ?_
   refine sp pM ?_
   refine sp pMa ?_
   refine oNil ?_
   refine aRet ?_
   refine finIs rfl ?_
   obtain rfl : i = b.length := by omega
   rw [List.take_length]
   rfl
/- check.Of -/
set_option maxRecDepth 100000 in
set_option maxHeartbeats 400000 in
theorem chk_Of {l : List BS} (hl : l.length ≤ 1000000 := by omega) (hb : ∀ b ∈ l, b.length ≤ 1000000) (hk : ∀ b ∈ l, BOk b) : Triple Tryz.prog 194 [.sl 1 (l.map rowC)] [] (Is (.v (.int .u32 (crcOfs l : Nat))) []) := by
 refine triple_of Tryz.func194 rfl (by kernel_rfl) rfl (by simp) ?_
 refine aSeq ?_
 refine aReg ?_
 refine sp pMa ?_
 refine oNil ?_
 refine aSeq ?_
 refine aReg ?_
 refine sp pMa ?_
 refine oNil ?_
 refine aSeq ?_
 refine aSeq ?_
 refine aReg ?_
 refine sp pM ?_
 refine sp (by first | exact pLm sl_177 | exact pLs sl_177) ?_
 refine sp pM ?_
 refine oNil ?_
 refine aBlock ?_
 refine loopF (α := Nat) (kept := [(6, _), (7, _)]) (fun i => i ≤ l.length) (fun i => [(8, .int i), (3, .v (.int .u32 ((l.take i).foldl crcMore 4294967295 : Nat)))]) (fun i => []) (fun i => l.length - i) 0 ?_ ⟨gInt rfl (by first | rfl | omega | simp), gAv rfl (by first | rfl | (rw [crcs_step hx])), rfl, rfl, trivial⟩ (by repeat constructor) ?_
 ·skip
  omega
 ·rintro i hi
  refine aSeq ?_
  refine aReg ?_
  refine sp pB ?_
  refine oNil ?_
  refine aSeq ?_
  refine aCondDec rfl (fun c9 => ?_) (fun c9 => ?_)
  ·skip
   refine aSkip ?_
   refine aSeq ?_
   refine aBlock ?_
   refine aSeq ?_
   obtain ⟨x, hx⟩ : ∃ z, l[i]? = some z := ⟨_, List.getElem?_eq_getElem (by omega)⟩
   have hxm := List.mem_of_getElem? hx
   have hrl := crcs_lt (l.take i) (r := 4294967295) (fun y hy => hk y (List.mem_of_mem_take hy)) (by decide)
   refine aReg ?_
   first | refine sp (pIx es_177) ?_ | (refine obtSN 6 8 rfl rfl (by omega) (fun x10 hx10 => ?_); refine sp (pIs es_177 hx10) ?_) | (refine obtS 6 8 rfl rfl (by omega) (by omega) (fun x10 hx10 => ?_); refine sp (pIs es_177 hx10) ?_) | refine sp (pIo es_177) ?_
   refine sr (rS1 ty_50) ?_
   refine sp pMa ?_
   refine oNil ?_
   refine aReg ?_
   refine sp pM ?_
   refine sp pM ?_
   refine sq ?_
   refine ci rfl rfl rfl (chk_more (r := (l.take i).foldl crcMore 4294967295) (b := x) (hb x hxm) (hk x hxm) hrl) ?_
   refine sp pMa ?_
   refine oNil ?_
   refine aReg ?_
   refine sp pAd ?_
   refine sp pM ?_
   refine oNil ?_
   refine ⟨i + 1, ?_, by (try dsimp only); omega, ⟨gInt rfl (by first | rfl | omega | simp), gAv rfl (by first | rfl | (rw [crcs_step hx])), rfl, rfl, trivial⟩, _, (by repeat constructor)⟩
   omega
  ·skip
   refine aExit rfl ?_
   refine aSeq ?_
   have hrl := crcs_lt (l.take i) (r := 4294967295) (fun y hy => hk y (List.mem_of_mem_take hy)) (by decide)
   refine aReg ?_
   refine sp pM ?_
   refine sp (pNotU (a := (l.take i).foldl crcMore 4294967295)) ?_
   refine sp pMa ?_
   refine oNil ?_
   refine aRet ?_
   refine finIs rfl ?_
   obtain rfl : i = l.length := by omega
   rw [List.take_length]
   rfl
/- check.bytes -/
set_option maxRecDepth 100000 in
set_option maxHeartbeats 400000 in
theorem chk_bytes {n : Nat} (hn : n < 4294967296) : Triple Tryz.prog 193 [.v (.int .u32 n)] [] (Own 5 1 ((be 4 n).map by1) []) := by
 refine triple_of Tryz.func193 rfl (by kernel_rfl) rfl (by simp) ?_
 refine aSeq ?_
 refine aReg ?_
 refine sp pMa ?_
 refine oNil ?_
 refine aSeq ?_
 refine aReg ?_
 refine sp pM ?_
 refine sp (pShrN (a := n) (r := 24) rfl rfl rfl rfl (by decide)) ?_
 refine sp (pConv rfl rfl ik_109 ik_5 (u8_mod _)) ?_
 refine sp pM ?_
 refine sp (pShrN (a := n) (r := 16) rfl rfl rfl rfl (by decide)) ?_
 refine sp (pConv rfl rfl ik_109 ik_5 (u8_mod _)) ?_
 refine sp pM ?_
 refine sp (pShrN (a := n) (r := 8) rfl rfl rfl rfl (by decide)) ?_
 refine sp (pConv rfl rfl ik_109 ik_5 (u8_mod _)) ?_
 refine sp pM ?_
 refine sp (pConv rfl rfl ik_109 ik_5 (u8_mod _)) ?_
 refine sq ?_
 refine qLit (l := [_, _, _, _]) rfl rfl (by decide) us_50 ty_5 ze_5 rfl (by decide) (by decide) rfl rfl rfl (fun b14 => ?_)
 refine sp pMa ?_
 refine oNil ?_
 refine aRet ?_
 refine finOwn rfl ?_
 rw [be4]
 rfl
theorem chk_bytes_s {n : Nat} (hn : n < 4294967296) : Triple Tryz.prog 193 [.v (.int .u32 n)] [] (Is (bsA (be 4 n)) []) := (chk_bytes hn).settle
/- slices.Grow[[]byte,byte] -/
set_option maxRecDepth 100000 in
set_option maxHeartbeats 400000 in
theorem grow_B0 {n : Nat} (hn : n ≤ 10000000) : Triple Tryz.prog 278 [.v (.slice none 0 0), .int n] [] (Own 5 1 (([] : BS).map by1) []) := by
 refine triple_of Tryz.func278 rfl (by kernel_rfl) rfl (by simp) ?_
 refine aSeq ?_
 refine aReg ?_
 refine sp pMa ?_
 refine oNil ?_
 refine aSeq ?_
 refine aSeq ?_
 refine aReg ?_
 refine sp pM ?_
 refine sp (pBl (by exact pB) (show _ = false from decide_eq_false (by omega))) ?_
 refine oNil ?_
 refine aCondF rfl ?_
 refine aSkip ?_
 refine aSeq ?_
 refine aSeq ?_
 refine aWeak (weak_nil 5 1) ?_
 refine aReg ?_
 refine sp pM ?_
 refine sp pM ?_
 refine sp (pCap sl_50) ?_
 refine sp pM ?_
 refine sp (by first | exact pLm sl_50 | exact pLs sl_50 | exact pLv sl_50) ?_
 refine sp pSu ?_
 refine sp pSu ?_
 rw [show ((n : Int) - (((0 : Nat) : Int) - ((0 : Nat) : Int))) = (n : Int) by omega]
 refine sp pMa ?_
 refine oNil ?_
 refine aSeq ?_
 refine aReg ?_
 refine sp pM ?_
 refine sp pB ?_
 refine oNil ?_
 refine aCondDec rfl (fun c16 => ?_) (fun c16 => ?_)
 ·skip
  refine aReg ?_
  refine sp pM ?_
  refine sp pM ?_
  refine sp (pCap sl_50) ?_
  refine sp (pSlHi (g := none) (n := 0) (c := 0) rfl rfl es_50 (bdI rfl) (by omega)) ?_
  refine sp pM ?_
  refine sa ?_
  refine oAppNilZ (m := n) (by1 0) rfl rfl (by decide) rfl rfl (by repeat constructor) el_50 ik_3 ze_5 rfl rfl (fun F w j av x hj hx => by match j with | 0 => (simp [by1] at hj; simp [Value.cells] at hx; subst hj; subst hx; exact .v _) | j + 1 => simp [by1] at hj) (by omega) (by omega) (by omega) (fun g22 k22 => ?_)
  refine sp pM ?_
  refine sp (by first | exact pLm sl_50 | exact pLs sl_50 | exact pLv sl_50) ?_
  refine sp (pSlHi rfl rfl es_50 (bdI rfl) (by omega)) ?_
  refine sp pMa ?_
  refine oNil ?_
  refine aSeq ?_
  refine aReg ?_
  refine sp pM ?_
  refine sp pMa ?_
  refine oNil ?_
  refine aWeak (weak_cut 0 (by repeat constructor)) ?_
  refine aRet ?_
  refine finOwn rfl ?_
  simp
 ·skip
  refine aSkip ?_
  refine aSeq ?_
  refine aReg ?_
  refine sp pM ?_
  refine sp pMa ?_
  refine oNil ?_
  refine aWeak (weak_cut 0 (by repeat constructor)) ?_
  refine aRet ?_
  refine finOwn rfl ?_
  simp
theorem catB_step {l : List BS} {i : Nat} {b : BS} (h : l[i]? = some b) : (l.take (i + 1)).flatten = (l.take i).flatten ++ b := by
 rw [take_step h, List.flatten_append]
 simp
theorem catB_len {l : List BS} (i : Nat) (hb : (l.flatten).length ≤ 1000000) : ((l.take i).flatten).length ≤ 1000000 := by
 have : l.flatten = (l.take i).flatten ++ (l.drop i).flatten := by rw [← List.flatten_append, List.take_append_drop]
 rw [this, List.length_append] at hb
 omega
/- slices.Concat[[]byte,byte] -/
set_option maxRecDepth 100000 in
set_option maxHeartbeats 400000 in
theorem concat_B {l : List BS} (hl : l.length ≤ 1000000 := by omega) (hb : l.flatten.length ≤ 1000000) : Triple Tryz.prog 192 [.sl 1 (l.map rowC)] [] (Own 5 1 (l.flatten.map by1) []) := by
 refine triple_of Tryz.func192 rfl (by kernel_rfl) rfl (by simp) ?_
 refine aSeq ?_
 refine aReg ?_
 refine sp pMa ?_
 refine oNil ?_
 refine aSeq ?_
 refine aReg ?_
 refine sp pMa ?_
 refine oNil ?_
 refine aSeq ?_
 refine aSeq ?_
 refine aReg ?_
 refine sp pM ?_
 refine sp (by first | exact pLm sl_177 | exact pLs sl_177) ?_
 refine sp pM ?_
 refine oNil ?_
 refine aBlock ?_
 refine loopF (α := Nat) (kept := [(0, _), (9, _), (10, _)]) (fun i => i ≤ l.length) (fun i => [(11, .int i), (3, .int (l.take i).flatten.length)]) (fun i => []) (fun i => l.length - i) 0 ?_ ⟨gInt rfl (by first | rfl | omega | simp), gInt rfl (by first | rfl | (rw [catB_step hx, List.length_append]; omega)), rfl, rfl, rfl, trivial⟩ (by repeat constructor) ?_
 ·skip
  omega
 ·rintro i hi
  refine aSeq ?_
  refine aReg ?_
  refine sp pB ?_
  refine oNil ?_
  refine aSeq ?_
  refine aCondDec rfl (fun c12 => ?_) (fun c12 => ?_)
  ·skip
   refine aSkip ?_
   refine aSeq ?_
   refine aBlock ?_
   refine aSeq ?_
   obtain ⟨x, hx⟩ : ∃ z, l[i]? = some z := ⟨_, List.getElem?_eq_getElem (by omega)⟩
   have hcl := catB_len (i + 1) hb
   rw [catB_step hx, List.length_append] at hcl
   refine aReg ?_
   first | refine sp (pIx es_177) ?_ | (refine obtSN 9 11 rfl rfl (by omega) (fun x13 hx13 => ?_); refine sp (pIs es_177 hx13) ?_) | (refine obtS 9 11 rfl rfl (by omega) (by omega) (fun x13 hx13 => ?_); refine sp (pIs es_177 hx13) ?_) | refine sp (pIo es_177) ?_
   refine sr (rS1 ty_50) ?_
   refine sp pMa ?_
   refine oNil ?_
   refine aSeq ?_
   refine aReg ?_
   refine sp pM ?_
   refine sp pM ?_
   refine sp (by first | exact pLm sl_50 | exact pLs sl_50 | exact pLv sl_50) ?_
   refine sp pAd ?_
   refine sp pMa ?_
   refine oNil ?_
   refine aSeq ?_
   refine aReg ?_
   refine sp pM ?_
   refine sp (pBl (by exact pB) (show _ = false from decide_eq_false (by omega))) ?_
   refine oNil ?_
   refine aCondF rfl ?_
   refine aSkip ?_
   refine aReg ?_
   refine sp pAd ?_
   refine sp pM ?_
   refine oNil ?_
   refine ⟨i + 1, ?_, by (try dsimp only); omega, ⟨gInt rfl (by first | rfl | omega | simp), gInt rfl (by first | rfl | (rw [catB_step hx, List.length_append]; omega)), rfl, rfl, rfl, trivial⟩, _, (by repeat constructor)⟩
   omega
  ·skip
   refine aExit rfl ?_
   refine aSeq ?_
   have hcl := catB_len i hb
   refine aReg ?_
   refine sp pM ?_
   refine sa ?_
   first | refine coM rfl rfl rfl (grow_B0 (n := (l.take i).flatten.length) (by omega)) (fun g24 k24 => ?_) | refine co rfl rfl rfl (grow_B0 (n := (l.take i).flatten.length) (by omega)) (fun g24 k24 => ?_)
   refine sp pMa ?_
   refine oNil ?_
   refine aSeq ?_
   refine aSeq ?_
   refine aReg ?_
   refine sp pM ?_
   refine sp (by first | exact pLm sl_177 | exact pLs sl_177) ?_
   refine sp pM ?_
   refine oNil ?_
   refine aBlock ?_
   refine loopF (α := Nat × BS × Option Nat × Nat) (kept := [(25, _), (26, _)]) (fun (i, out, g, c) => i ≤ l.length ∧ out = (l.take i).flatten) (fun (i, out, g, c) => [(27, .int i), (6, .v (slV g out.length c))]) (fun (i, out, g, c) => [.sl g c 5 1 (out.map by1)]) (fun (i, out, g, c) => l.length - i) (0, [], _, _) ?_ ⟨gInt rfl (by first | rfl | omega | simp), gLen rfl (by first | rfl | simp | (simp; omega)), rfl, rfl, trivial⟩ (by repeat constructor) ?_
   ·skip
    exact ⟨by omega, rfl⟩
   ·rintro ⟨i, out, g, c⟩ ⟨hi, ho⟩
    refine aSeq ?_
    refine aReg ?_
    refine sp pB ?_
    refine oNil ?_
    refine aSeq ?_
    refine aCondDec rfl (fun c28 => ?_) (fun c28 => ?_)
    ·skip
     refine aSkip ?_
     refine aSeq ?_
     refine aBlock ?_
     refine aSeq ?_
     obtain ⟨x, hx⟩ : ∃ z, l[i]? = some z := ⟨_, List.getElem?_eq_getElem (by omega)⟩
     have hcl := catB_len (i + 1) hb
     rw [catB_step hx, List.length_append, ← ho] at hcl
     refine aReg ?_
     first | refine sp (pIx es_177) ?_ | (refine obtSN 25 27 rfl rfl (by omega) (fun x29 hx29 => ?_); refine sp (pIs es_177 hx29) ?_) | (refine obtS 25 27 rfl rfl (by omega) (by omega) (fun x29 hx29 => ?_); refine sp (pIs es_177 hx29) ?_) | refine sp (pIo es_177) ?_
     refine sr (rS1 ty_50) ?_
     refine sp pMa ?_
     refine oNil ?_
     refine aReg ?_
     refine sp pM ?_
     refine sp pM ?_
     refine sa ?_
     first | refine oAppT _ rfl rfl (by repeat constructor) (.inl rfl) el_50 sl_50 (fun g33 k33 => ?_) | refine oAppT _ rfl rfl (by repeat constructor) (srcOwn rfl (by repeat constructor) (by first | rfl | simp)) el_50 sl_50 (fun g33 k33 => ?_)
     refine sp pMa ?_
     refine oNil ?_
     refine aReg ?_
     refine sp pAd ?_
     refine sp pM ?_
     refine oNil ?_
     refine ⟨(i + 1, _, _, _), ?_, by (try dsimp only); omega, ⟨gInt rfl (by first | rfl | omega | simp), gLen rfl (by first | rfl | simp | (simp; omega)), rfl, rfl, trivial⟩, _, (by repeat constructor)⟩
     exact ⟨by omega, by rw [catB_step hx, ← ho]⟩
    ·skip
     refine aExit rfl ?_
     refine aSeq ?_
     refine aReg ?_
     refine sp pM ?_
     refine sp pMa ?_
     refine oNil ?_
     refine aRet ?_
     refine finOwn rfl ?_
     obtain rfl : i = l.length := by omega
     rw [ho, List.take_length]
end A
end Go.Proofs.YthkgdhamnpiagaaGreat
namespace Go.Proofs.YthkgdhamnpiagaaGreat
namespace A
theorem us_177 : Tryz.prog.underlying 177 = some (.slice 50) := by kernel_rfl
/- slices.Equal[[]byte,byte] -/
def equal_B_r6_T : Bool × List (List Nat × List Nat) := (true, [([], []), ([], []), ([0, 1], [0, 1]), ([2], [2]), ([], []), ([], []), ([4, 5], [4, 5]), ([6], [6]), ([3, 7], [3, 7])])
def equal_B_r6_B : List Nat := [0, 0, 3, 7, 0, 0, 48, 112, 255]
theorem equal_B_r6_t : Go.Proofs.YthkgdhamnpiagaaGreatW.PrintLast.rtab .any (Go.Proofs.YthkgdhamnpiagaaGreatW.PrintLast.opsOf Tryz.f207 6) = equal_B_r6_T := by kernel_rfl
theorem equal_B_r6_b : Go.Proofs.YthkgdhamnpiagaaGreatW.PrintLast.waitsOk equal_B_r6_T.2 equal_B_r6_B = true := by kernel_rfl
set_option maxRecDepth 100000 in
set_option maxHeartbeats 400000 in
theorem equal_B {a b : BS} (ha : a.length < 9223372036854775807 := by omega) (hb : b.length < 9223372036854775807 := by omega) : Triple Tryz.prog 207 [.sl 1 (a.map by1), .sl 1 (b.map by1)] [] (Is (.v (.bool (decide (a = b)))) []) := by
 refine triple_of Tryz.func207 rfl (by kernel_rfl) rfl (by simp) ?_
 refine aSeq ?_
 refine aReg ?_
 refine sp pMa ?_
 refine oNil ?_
 refine aSeq ?_
 refine aSeq ?_
 refine aReg ?_
 refine sp pM ?_
 refine sp (by first | exact pLm sl_50 | exact pLs sl_50) ?_
 refine sp pM ?_
 refine sp (by first | exact pLm sl_50 | exact pLs sl_50) ?_
 refine sp pB ?_
 refine oNil ?_
 refine aCondNe rfl (fun c10 => ?_) (fun c10 => ?_)
 ·skip
  refine aSeq ?_
  refine aReg ?_
  refine sp pMa ?_
  refine oNil ?_
  refine aRet ?_
  refine finIs rfl ?_
  rw [decide_eq_false (fun e => by subst e; simp_all)]
  rfl
 ·skip
  refine aSkip ?_
  refine aSeq ?_
  refine aSeq ?_
  refine aReg ?_
  refine sp pM ?_
  refine sp (by first | exact pLm sl_50 | exact pLs sl_50) ?_
  refine sp pM ?_
  refine oNil ?_
  refine aBlock ?_
  refine loopF (α := Nat) (kept := [(0, _), (1, _), (12, _)]) (fun i => i ≤ a.length ∧ a.length = b.length ∧ a.take i = b.take i) (fun i => [(13, .int i)]) (fun i => []) (fun i => a.length - i) 0 ?_ ⟨gInt rfl (by first | rfl | omega | simp), rfl, rfl, rfl, trivial⟩ (by repeat constructor) ?_
  ·skip
   exact ⟨by omega, by omega, rfl⟩
  ·rintro i ⟨hi, hl, hv⟩
   refine aSeq ?_
   refine aReg ?_
   refine sp pB ?_
   refine oNil ?_
   refine aSeq ?_
   refine aCondDec rfl (fun c14 => ?_) (fun c14 => ?_)
   ·skip
    refine aSkip ?_
    refine aSeq ?_
    refine aBlock ?_
    refine aSeq ?_
    refine aReg ?_
    refine sp pM ?_
    refine sp pMa ?_
    refine oNil ?_
    refine aSeq ?_
    refine aDrawT equal_B_r6_t equal_B_r6_b [] 9 #[false, false, false, false, false, false, false, false, false] (by kernel_rfl) rfl rfl (fun HT => ?_)
    refine dp HT 0 rfl pM ?_
    refine dp HT 1 rfl pM ?_
    first | refine dp HT 2 rfl (pIx es_50) ?_ | (refine obtDN 16 17 rfl rfl (by omega) (fun x18 hx18 => ?_); refine dp HT 2 rfl (pIs es_50 hx18) ?_) | (refine obtD 16 17 rfl rfl (by omega) (by omega) (fun x18 hx18 => ?_); refine dp HT 2 rfl (pIs es_50 hx18) ?_) | refine dp HT 2 rfl (pIo es_50) ?_
    refine dr HT 3 rfl (rS1 ty_5) ?_
    refine dp HT 4 rfl pM ?_
    refine dp HT 5 rfl pM ?_
    first | refine dp HT 6 rfl (pIx es_50) ?_ | (refine obtDN 20 21 rfl rfl (by omega) (fun x22 hx22 => ?_); refine dp HT 6 rfl (pIs es_50 hx22) ?_) | (refine obtD 20 21 rfl rfl (by omega) (by omega) (fun x22 hx22 => ?_); refine dp HT 6 rfl (pIs es_50 hx22) ?_) | refine dp HT 6 rfl (pIo es_50) ?_
    refine dr HT 7 rfl (rS1 ty_5) ?_
    refine dp HT 8 rfl pB ?_
    refine dE HT ?_
    clear HT
    refine aCondNe rfl (fun c24 => ?_) (fun c24 => ?_)
    ·skip
     refine aSeq ?_
     refine aReg ?_
     refine sp pMa ?_
     refine oNil ?_
     refine aRet ?_
     refine finIs rfl ?_
     rw [decide_eq_false (fun e => by subst e; obtain rfl := Option.some.inj (hx18.symm.trans hx22); simp_all)]
     rfl
    ·skip
     refine aSkip ?_
     refine aReg ?_
     refine sp pAd ?_
     refine sp pM ?_
     refine oNil ?_
     refine ⟨i + 1, ?_, by (try dsimp only); omega, ⟨gInt rfl (by first | rfl | omega | simp), rfl, rfl, rfl, trivial⟩, _, (by repeat constructor)⟩
     have hxy : x18 = x22 := by
       first
         | (simp_all; done)
         | (simp_all; omega)
     exact ⟨by omega, hl, by rw [take_step hx18, take_step hx22, hv, hxy]⟩
   ·skip
    refine aExit rfl ?_
    refine aSeq ?_
    refine aReg ?_
    refine sp pMa ?_
    refine oNil ?_
    refine aRet ?_
    refine finIs rfl ?_
    rw [take_all (by omega), take_all (by omega)] at hv
    rw [decide_eq_true hv]
    rfl
/- check.Seal -/
set_option maxRecDepth 100000 in
set_option maxHeartbeats 400000 in
theorem chk_Seal {b : BS} (hb : b.length ≤ 900000 := by omega) (hk : BOk b) : Triple Tryz.prog 93 [.sl 1 (b.map by1)] [] (Own 5 1 ((sealB b).map by1) []) := by
 refine triple_of Tryz.func93 rfl (by kernel_rfl) rfl (by simp) ?_
 refine aSeq ?_
 refine aReg ?_
 refine sp pMa ?_
 refine oNil ?_
 refine aSeq ?_
 refine aReg ?_
 refine sp pM ?_
 refine sp pM ?_
 refine sq ?_
 refine qLit (l := [_]) rfl rfl (by decide) us_177 ty_50 ze_50 rfl (by decide) (by decide) rfl rfl rfl (fun b5 => ?_)
 refine sq ?_
 refine cv rfl rfl rfl (by repeat (first | exact .nil | refine .cons (.sl (by repeat (first | exact List.mem_cons_self | apply List.mem_cons_of_mem)) (by first | rfl | simp)) ?_ | refine .cons (.same _) ?_)) (chk_Of (l := [b]) (by simp) (fun y hy => by rw [List.mem_singleton.1 hy]; omega) (fun y hy => by rw [List.mem_singleton.1 hy]; exact hk)) ?_
 refine sq ?_
 refine ci rfl rfl rfl (chk_bytes_s (n := crcOfs [b]) (crcOf_lt b)) ?_
 refine sq ?_
 refine qLit (l := [_, _]) rfl rfl (by decide) us_177 ty_50 ze_50 rfl (by decide) (by decide) rfl rfl rfl (fun b8 => ?_)
 refine oWeak (weak_settle (k := 8) rfl (by repeat constructor) (by simp)) ?_
 refine sa ?_
 first | refine coM rfl rfl rfl (concat_B (l := [b, be 4 (crcOfs [b])]) (by simp) (by simp only [List.flatten_cons, List.flatten_nil, List.append_nil, List.length_append, be_len]; omega)) (fun g9 k9 => ?_) | refine co rfl rfl rfl (concat_B (l := [b, be 4 (crcOfs [b])]) (by simp) (by simp only [List.flatten_cons, List.flatten_nil, List.append_nil, List.length_append, be_len]; omega)) (fun g9 k9 => ?_)
 refine sp pMa ?_
 refine oNil ?_
 refine aRet ?_
 refine finOwn rfl ?_
 simp [sealB, crcOfs_one]
/- check.Open -/
def chk_OpenS_r2_T : Bool × List (List Nat × List Nat) := (true, [([], []), ([0], [0]), ([1], [1]), ([2], [2]), ([2], [2]), ([3, 4, 2], [2, 3, 4]), ([5, 2], [2, 5]), ([6, 2, 2], [2, 6]), ([7, 7, 2], [2, 7]), ([2], [2]), ([2], [2]), ([9, 10, 2], [2, 9, 10]), ([8, 11, 8, 2], [2, 8, 11]), ([12, 2], [2, 12]), ([2, 13], [2, 13])])
def chk_OpenS_r2_B : List Nat := [0, 1, 3, 7, 7, 31, 63, 127, 255, 7, 7, 1543, 4095, 8191, 16383]
theorem chk_OpenS_r2_t : Go.Proofs.YthkgdhamnpiagaaGreatW.PrintLast.rtab .any (Go.Proofs.YthkgdhamnpiagaaGreatW.PrintLast.opsOf Tryz.f110 2) = chk_OpenS_r2_T := by kernel_rfl
theorem chk_OpenS_r2_b : Go.Proofs.YthkgdhamnpiagaaGreatW.PrintLast.waitsOk chk_OpenS_r2_T.2 chk_OpenS_r2_B = true := by kernel_rfl
set_option maxRecDepth 100000 in
set_option maxHeartbeats 400000 in
theorem chk_OpenS {b : BS} (hb : b.length < 4) : Triple Tryz.prog 110 [.sl 1 (b.map by1)] [] (Is (.tup [bsA ((openB b).getD []), .v (.bool (openB b).isSome)]) []) := by
 refine triple_of Tryz.func110 rfl (by kernel_rfl) rfl (by simp) ?_
 refine aSeq ?_
 refine aReg ?_
 refine sp pMa ?_
 refine sp pMa ?_
 refine oNil ?_
 refine aSeq ?_
 refine aReg ?_
 refine sp pM ?_
 refine sp (by first | exact pLm sl_50 | exact pLs sl_50) ?_
 refine sp pSu ?_
 refine sp pMa ?_
 refine oNil ?_
 refine aSeq ?_
 refine aSeq ?_
 refine aDrawT chk_OpenS_r2_t chk_OpenS_r2_b [] 15 #[false, false, false, false, false, false, false, false, false, false, false, false, false, false, false] (by kernel_rfl) rfl rfl (fun HT => ?_)
 refine dp HT 0 rfl pM ?_
 refine dp HT 1 rfl (pBl (by exact pB) (show _ = true from decide_eq_true (by omega))) ?_
 refine dp HT 2 rfl pM ?_
 refine dS HT 3 rfl ?_
 refine dS HT 4 rfl ?_
 refine dS HT 5 rfl ?_
 refine dS HT 6 rfl ?_
 refine dS HT 7 rfl ?_
 refine dS HT 8 rfl ?_
 refine dS HT 9 rfl ?_
 refine dS HT 10 rfl ?_
 refine dS HT 11 rfl ?_
 refine dGo ?_
 refine eS HT 12 rfl ?_
 refine eS HT 13 rfl ?_
 refine ef HT 14 rfl pK ?_
 refine eE HT ?_
 clear HT
 refine aCondT rfl ?_
 refine aSeq ?_
 refine aReg ?_
 refine sp pMa ?_
 refine sp pMa ?_
 refine oNil ?_
 have hE : openB b = none := by unfold openB; rw [if_pos hb]
 rw [hE]
 refine aWeak (weak_cast (k := 2) (b := .sl 1 []) rfl cast_nil) ?_
 refine aRet ?_
 exact finIs rfl rfl
/- check.Open -/
def chk_OpenL_r2_T : Bool × List (List Nat × List Nat) := (true, [([], []), ([0], [0]), ([1], [1]), ([2], [2]), ([2], [2]), ([3, 4, 2], [2, 3, 4]), ([5, 2], [2, 5]), ([6, 2, 2], [2, 6]), ([7, 7, 2], [2, 7]), ([2], [2]), ([2], [2]), ([9, 10, 2], [2, 9, 10]), ([8, 11, 8, 2], [2, 8, 11]), ([12, 2], [2, 12]), ([2, 13], [2, 13])])
def chk_OpenL_r2_B : List Nat := [0, 1, 3, 7, 7, 31, 63, 127, 255, 7, 7, 1543, 4095, 8191, 16383]
theorem chk_OpenL_r2_t : Go.Proofs.YthkgdhamnpiagaaGreatW.PrintLast.rtab .any (Go.Proofs.YthkgdhamnpiagaaGreatW.PrintLast.opsOf Tryz.f110 2) = chk_OpenL_r2_T := by kernel_rfl
theorem chk_OpenL_r2_b : Go.Proofs.YthkgdhamnpiagaaGreatW.PrintLast.waitsOk chk_OpenL_r2_T.2 chk_OpenL_r2_B = true := by kernel_rfl
set_option maxRecDepth 100000 in
set_option maxHeartbeats 400000 in
theorem chk_OpenL {b : BS} {m : Nat} (hm : b.length = m + 4) (hb : b.length ≤ 900000) (hk : BOk b) : Triple Tryz.prog 110 [.sl 1 (b.map by1)] [] (Is (.tup [bsA ((openB b).getD []), .v (.bool (openB b).isSome)]) []) := by
 have hk' := hk
 replace hk : BOk (b.take m) := fun x hx => hk' x (List.mem_of_mem_take hx)
 have htl : (b.take m).length = m := by rw [List.length_take]; omega
 have hdl : (b.drop m).length = 4 := by rw [List.length_drop]; omega
 have hbl := be_len 4 (crcOfs [b.take m])
 have hE : openB b = if be 4 (crcOfs [b.take m]) = b.drop m then some (b.take m) else none := by
   unfold openB
   rw [if_neg (by omega), show b.length - 4 = m by omega, ← crcOfs_one]
 refine triple_of Tryz.func110 rfl (by kernel_rfl) rfl (by simp) ?_
 refine aSeq ?_
 refine aReg ?_
 refine sp pMa ?_
 refine sp pMa ?_
 refine oNil ?_
 refine aSeq ?_
 refine aReg ?_
 refine sp pM ?_
 refine sp (by first | exact pLm sl_50 | exact pLs sl_50) ?_
 refine sp pSu ?_
 rw [show ((b.length : Nat) : Int) - 4 = ((m : Nat) : Int) by omega]
 refine sp pMa ?_
 refine oNil ?_
 refine aSeq ?_
 refine aSeq ?_
 refine aDrawT chk_OpenL_r2_t chk_OpenL_r2_b [] 15 #[false, false, false, false, false, false, false, false, false, false, false, false, false, false, false] (by kernel_rfl) rfl rfl (fun HT => ?_)
 refine dp HT 0 rfl pM ?_
 refine dp HT 1 rfl (pBl (by exact pB) (show _ = false from decide_eq_false (by omega))) ?_
 refine dp HT 2 rfl pM ?_
 refine dpG HT 3 rfl pM ?_
 refine dpG HT 4 rfl pM ?_
 refine dpG HT 5 rfl (pSlice rfl rfl es_50 (bdN rfl) (bdI rfl) (by first | omega | (simp only [List.length_map]; omega)) (by first | omega | (simp only [List.length_map]; omega))) ?_
 rw [show ((b.map by1).drop 0).take (m - 0) = (b.take m).map by1 by rw [List.drop_zero, Nat.sub_zero, List.map_take]]
 refine dpG HT 9 rfl pM ?_
 refine dpG HT 10 rfl pM ?_
 refine dpG HT 11 rfl (pSlice rfl rfl es_50 (bdI rfl) (bdN rfl) (by first | omega | (simp only [List.length_map]; omega)) (by first | omega | (simp only [List.length_map]; omega))) ?_
 rw [show ((b.map by1).drop m).take ((b.map by1).length - m) = (b.drop m).map by1 by rw [List.map_drop, List.take_of_length_le]; simp]
 refine dGo ?_
 refine e1G HT 6 rfl ?_
 refine qLit (l := [_]) rfl rfl (by decide) us_177 ty_50 ze_50 rfl (by decide) (by decide) rfl rfl rfl (fun b14 => ?_)
 refine e1G HT 7 rfl ?_
 refine cv rfl rfl rfl (by repeat (first | exact .nil | refine .cons (.sl (by repeat (first | exact List.mem_cons_self | apply List.mem_cons_of_mem)) (by first | rfl | simp)) ?_ | refine .cons (.same _) ?_)) (chk_Of (l := [b.take m]) (by simp) (fun y hy => by rw [List.mem_singleton.1 hy]; omega) (fun y hy => by rw [List.mem_singleton.1 hy]; exact hk)) ?_
 refine e1G HT 8 rfl ?_
 refine ci rfl rfl rfl (chk_bytes_s (n := crcOfs [b.take m]) (crcOf_lt _)) ?_
 refine e1G HT 12 rfl ?_
 refine cv rfl rfl rfl (lents_refl _) (equal_B (a := be 4 (crcOfs [b.take m])) (b := b.drop m) (by omega) (by omega)) ?_
 refine efG HT 13 rfl pNo ?_
 refine ef HT 14 rfl pK ?_
 refine eE HT ?_
 clear HT
 refine aCondNot rfl (fun c22 => ?_) (fun c22 => ?_)
 ·skip
  refine aSeq ?_
  refine aReg ?_
  refine sp pMa ?_
  refine sp pMa ?_
  refine oNil ?_
  rw [hE, if_neg (by simp_all)]
  refine aWeak (weak_cast (k := 2) (b := .sl 1 []) rfl cast_nil) ?_
  refine aRet ?_
  exact finIs rfl rfl
 ·skip
  refine aSkip ?_
  refine aSeq ?_
  refine aReg ?_
  refine sp pM ?_
  refine sp pM ?_
  refine sp (pSlice rfl rfl es_50 (bdN rfl) (bdI rfl) (by first | omega | (simp only [List.length_map]; omega)) (by first | omega | (simp only [List.length_map]; omega))) ?_
  rw [show ((b.map by1).drop 0).take (m - 0) = (b.take m).map by1 by rw [List.drop_zero, Nat.sub_zero, List.map_take]]
  refine sa ?_
  first | refine coM rfl rfl rfl (clone_B (l := b.take m) (by omega)) (fun g26 k26 => ?_) | refine co rfl rfl rfl (clone_B (l := b.take m) (by omega)) (fun g26 k26 => ?_)
  refine oWeak (weak_settle (k := 26) rfl (by repeat constructor) (by simp)) ?_
  refine sp pMa ?_
  refine sp pMa ?_
  refine oNil ?_
  rw [hE, if_pos (by simp_all)]
  refine aRet ?_
  exact finIs rfl rfl
theorem chk_Open {b : BS} (hb : b.length ≤ 900000) (hk : BOk b) : Triple Tryz.prog 110 [.sl 1 (b.map by1)] [] (Is (.tup [bsA ((openB b).getD []), .v (.bool (openB b).isSome)]) []) := by
 by_cases h : b.length < 4
 ·exact chk_OpenS h
 ·exact chk_OpenL (m := b.length - 4) (by omega) hb hk
theorem chk_Seal_s {b : BS} (hb : b.length ≤ 900000) (hk : BOk b) : Triple Tryz.prog 93 [.sl 1 (b.map by1)] [] (Is (bsA (sealB b)) []) := (chk_Seal hb hk).settle
end A
end Go.Proofs.YthkgdhamnpiagaaGreat
namespace Go.Proofs.YthkgdhamnpiagaaGreat
namespace A
def idxF {α : Type} (p : α → Bool) : List α → Int
 | [] => -1
 | x :: l => if p x then 0 else if idxF p l < 0 then -1 else idxF p l + 1
theorem idxF_no {α : Type} {p : α → Bool} : ∀ {l : List α}, (∀ x ∈ l, p x = false) → idxF p l = -1 ∧ l.find? p = none
 | [], _ => ⟨rfl, rfl⟩
 | x :: l, h => by
   have h1 := h x (by simp)
   obtain ⟨h2, h3⟩ := idxF_no (l := l) (fun y hy => h y (by simp [hy]))
   simp [idxF, List.find?, h1, h2, h3]
theorem idxF_at {α : Type} {p : α → Bool} : ∀ {l : List α} {i : Nat} {x : α}, (∀ y ∈ l.take i, p y = false) → l[i]? = some x → p x = true → idxF p l = i ∧ l.find? p = some x
 | [], _, _, _, h, _ => by simp at h
 | y :: l, 0, x, _, h, hp => by simp at h; subst h; simp [idxF, List.find?, hp]
 | y :: l, i + 1, x, h, hx, hp => by
   have h1 := h y (by simp)
   obtain ⟨h2, h3⟩ := idxF_at (l := l) (i := i) (fun z hz => h z (by simp [hz])) (by simpa using hx) hp
   simp only [idxF, List.find?, h1, h2, h3, Bool.false_eq_true, if_false]
   rw [if_neg (by omega)]
   refine ⟨by simp, ?_⟩
   first | rfl | trivial
theorem idxF_cases {α : Type} (p : α → Bool) (l : List α) : (idxF p l = -1 ∧ l.find? p = none) ∨ ∃ i x, idxF p l = (i : Nat) ∧ l[i]? = some x ∧ l.find? p = some x := by
 induction l with
 | nil => exact .inl ⟨rfl, rfl⟩
 | cons y l ih =>
   cases hp : p y with
   | true => exact .inr ⟨0, y, by simp [idxF, hp], rfl, by simp [List.find?, hp]⟩
   | false =>
     rcases ih with ⟨h1, h2⟩ | ⟨i, x, h1, h2, h3⟩
     ·exact .inl ⟨by simp [idxF, hp, h1], by simp [List.find?, hp, h2]⟩
     ·refine .inr ⟨i + 1, x, ?_, by simpa using h2, by simp [List.find?, hp, h3]⟩
      simp only [idxF, hp, h1, Bool.false_eq_true, if_false]
      rw [if_neg (by omega)]
      simp
end A
end Go.Proofs.YthkgdhamnpiagaaGreat
namespace Go.Proofs.YthkgdhamnpiagaaGreat
namespace A
open Go.Sort Go.Shelf Go.Lib Go.RowKit
/-- Weakening while a region draws: what was owned when its first call began is still owned. -/
theorem eWeak {P : Program} {N : Nat} {env : Env} {h : List HA} {K : Cont} {X : List (Nat × Cont)} {Rt : Cont} {ops : Array Oper} {ds : List Nat} {n : Nat} {l : Array Bool} {E0 : Env} {h0 : List HA} {env' : Env} {h' : List HA} (hw : Weak N env h env' h') (hk : ∀ b ∈ owns h0, b ∈ owns h') (h1 : ADraw2 P N ops ds n l E0 h0 env' h' K X Rt) : ADraw2 P N ops ds n l E0 h0 env h K X Rt := by
 intro B F0 w0 F a w s0 s e d hF hO hA
 obtain ⟨F', s', e'⟩ := hw F a w s
 exact h1 B F0 w0 F' a w s0 s' (e.trans e') d (fun b hb => e'.mono b (hF b hb)) (fun b hb => .inl (hk b hb)) hA
end A
end Go.Proofs.YthkgdhamnpiagaaGreat
namespace Go.Proofs.YthkgdhamnpiagaaGreat
namespace A
open Go.Lib Go.RowKit
variable {P : Program} {N : Nat} {env : Env} {h : List HA} {K : Cont} {X : List (Nat × Cont)} {Rt : Cont}
theorem AOp.weakW {o : Oper} {K' : Cont} {env0 : Env} {h0 : List HA} (hw : Weak N env h env0 h0) (q : AOp P N o env0 h0 K') (hk : ∀ env' h', K' env' h' → ∃ h2, Weak N env' h' env' h2 ∧ K env' h2) : AOp P N o env h K := by
 intro B F a w Q s e d
 obtain ⟨F0, s0, e0⟩ := hw F a w s
 refine Oper.wp_mono ?_ (q B F0 a w Q s0 (e.trans e0) d)
 rintro a' w' ⟨hd, F', env', h', hk', s', e'⟩
 obtain ⟨h2, hw2, hk2⟩ := hk env' h' hk'
 obtain ⟨F2, s2, e2⟩ := hw2 F' a' w' s'
 exact ⟨hd, F2, env', h2, hk2, s2, e'.trans e2⟩
end A
end Go.Proofs.YthkgdhamnpiagaaGreat
