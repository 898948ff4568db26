/- Texts that ConfigTextsCard's proof rests on, part 12. -/
import Derived.Lib.AppendZeros
import Derived.Test.YtgdfppjapnpcgaaDoorS10ConfigTextsCard
set_option linter.unusedVariables false
set_option linter.unusedSimpArgs false
namespace Go.Proofs.YtgdfppjapnpcgaaDoor
namespace A
open Go.Lib Go.RowKit
variable {P : Program} {N : Nat} {env : Env} {h : List HA} {K : Env → List HA → Prop}
section
variable {o : Oper} {t t' : TypeId} {xo yo : Operand} {a b : Nat} {k' : IntKind}
end
theorem weak_cast {k : Nat} {a b : AV} (hk : get env k = some a) (hc : Cast a b) : Weak N env h ((k, b) :: env) h := fun F x w s =>
 ⟨F, ⟨s.r, s.size, fun j av hj => by
   simp only [A.get] at hj
   by_cases e : k = j
   ·subst e
    have : Nat.beq k k = true := by simp
    rw [this] at hj
    simp only [cond_true, Option.some.injEq] at hj
    subst hj
    exact hc F w _ (s.env k a hk)
   ·rw [beq_no e] at hj
    exact s.env j av hj⟩, .refl F h w⟩
theorem pCap {o : Oper} {t : TypeId} {x : Operand} {ad : Option Addr} {n c : Nat} (ht : isSl P t = true) (ho : o.op = .call ⟨.builtin .cap, #[x], #[t]⟩ := by rfl) (hx : ev env x = some (.v (.slice ad n c)) := by rfl) : APure P N o env (.int c) := by
 obtain ⟨e, hu⟩ := isSl_spec ht
 intro F h a w st
 have hr := st.ev hx
 generalize hv : a.eval x = v at hr
 cases hr
 refine ⟨_, .v _, fun w' => ?_⟩
 simp only [execOp, ho, resolve, Sem.run_bind, Sem.run_pure, Result.andThen_ok, invoke, builtin]
 simp [hv, Builtin.cap_, run_underlying' hu, goInt]
/-- Noughts behind nothing. -/
theorem oAppNilZ {o : Oper} {t t' e : TypeId} {x y : Operand} {k kn : IntKind} {sz by_ d m : Nat} {z : Value} {h' : List HA} (zs : List AV) (ho : o.op = .call ⟨.builtin .append, #[x, y], #[t, t']⟩) (hd : o.dst = some d) (hN : d < N) (hx : ev env x = some (.v (.slice none 0 0))) (hy : ev env y = some (.v (.int k (m : Int))))
   (hs : Spl h (.sl none 0 e sz []) h') (ht : elemOf P t = some (e, sz, by_)) (hti' : intKindOf P t' = some kn) (hz : zeroOf P e = some z) (h1 : z.cells.toList.all (·.oneCell') = true) (hzs : zs.length = sz)
   (hrep : ∀ (F : Nat → Prop) (w : World) (j : Nat) av x, zs[j]? = some av → z.cells[j]? = some x → Rep F w av x) (h0 : 0 < m) (hb : m * by_ ≤ 140737488355328) (hmx : m ≤ 1000000000)
   (hk : ∀ b c, K ((d, .v (slV (some b) m c)) :: env) (.sl (some b) c e sz (List.replicate m zs) :: h')) : AOp P N o env h K := by
 intro B F a w Q s ex hdef
 obtain ⟨hu, i, z', hi, hzz, hisz, hzs', hsz0, hby⟩ := elemOf_spec ht
 have hze : z' = z := by
   unfold zeroOf at hz
   rw [hi, Option.bind_some, hzz] at hz
   exact Option.some.inj hz
 subst hze
 have hxv := s.ev hx
 have hyv := s.ev hy
 generalize hv : a.eval x = vx at hxv
 generalize hv2 : a.eval y = vy at hyv
 cases hxv
 cases hyv
 have hti := intKindOf_spec hti'
 have hr := run_append_nil_zeros (P := P) w t t' o.type e i z' k kn hu hti hi hzz m h0 (by omega) (by omega) (by rw [hby]; omega)
 have hcell : ∀ i j, i < m → j < sz → (Builtin.zeroCells z'.cells m)[i * sz + j]? = z'.cells[j]? := fun i j hi hj => by
   have hlt := idx_lt hi hj
   have hm : (i * sz + j) % z'.cells.size = j := by rw [hzs', Nat.mul_comm, Nat.mul_add_mod, Nat.mod_eq_of_lt hj]
   simp only [Builtin.zeroCells, Array.getElem?_map, Array.getElem?_range, hzs', hlt, if_true, Option.map_some]
   rw [hzs'] at hm
   rw [hm]
   simp [hzs', hj]
 have hzl : (Builtin.zeroCells z'.cells m).toList.length = m * sz := by
   rw [Array.length_toList, size_zeroCells', hzs']
 have hge := grownCap_ge w m 0 e
 have hcm : grownCap w m 0 e ≤ maxLen := grownCap_le_maxLen w m 0 e (by simp only [maxLen]; omega)
 obtain ⟨hR, hE⟩ := s.r.appended (w' := w.drew.alloc (.cells (Builtin.zeroCells z'.cells m ++ Builtin.zeroCells z'.cells (grownCap w m 0 e - m)) e)) (g' := some w.heap.size) (c' := grownCap w m 0 e) (ns := List.replicate m zs) (xs := []) (news := (Builtin.zeroCells z'.cells m).toList) hs
   (by
     simp only [List.length_nil, List.length_replicate, Nat.zero_add, List.nil_append]
     refine ⟨hzl, .inr ⟨w.heap.size, _, _, rfl, Nat.zero_le _, heap_new w.drew _, hge, hcm, ?_, ?_⟩⟩
     ·simp only [Array.size_append, size_zeroCells', hzs', ← Nat.add_mul]
      congr 1
      omega
     ·simp only [Array.toList_append]
      rw [← hzl]
      exact List.take_left)
   (by simp) (by
     intro y hy
     rw [List.nil_append] at hy
     rw [List.eq_of_mem_replicate hy, hzs]) (by
     intro x hx
     rw [List.nil_append] at hx
     obtain ⟨q, hq⟩ := List.mem_iff_getElem?.1 hx
     have hq2 : (Builtin.zeroCells z'.cells m)[q]? = some x := by simpa using hq
     have hqlt : q < m * sz := by have := (List.getElem?_eq_some_iff.1 hq).1; rwa [hzl] at this
     have hdiv : q / sz < m := (Nat.div_lt_iff_lt_mul hsz0).2 hqlt
     have := hcell (q / sz) (q % sz) hdiv (Nat.mod_lt _ hsz0)
     rw [Nat.mul_comm (q / sz) sz, Nat.div_add_mod, hq2] at this
     exact List.all_eq_true.1 h1 x (by simpa using Array.mem_of_getElem? this.symm))
   (fun i j y av x hi => by simp at hi)
   (fun i j y av x hi hj hx => by
     have hil : i < m := by have := (List.getElem?_eq_some_iff.1 hi).1; simpa using this
     have hy : y = zs := List.eq_of_mem_replicate (List.mem_of_getElem? hi)
     subst hy
     have hjl : j < sz := by rw [← hzs]; exact (List.getElem?_eq_some_iff.1 hj).1
     have hx2 : (Builtin.zeroCells z'.cells m)[i * sz + j]? = some x := by simpa using hx
     rw [hcell i j hil hjl] at hx2
     exact hrep F _ j av x hj hx2)
   rfl rfl rfl (by simp) (fun b hb => .inr (by simp at hb; subst hb; simp)) (fun b hb _ => heap_old w.drew _ b hb) (Nat.le_succ _)
 have hrun2 : (execOp a.eval o).run P w = .ok (.value (slV (some w.heap.size) m (grownCap w m 0 e))) (w.drew.alloc (.cells (Builtin.zeroCells z'.cells m ++ Builtin.zeroCells z'.cells (grownCap w m 0 e - m)) e)) := by
   simp only [execOp, ho, resolve, Sem.run_bind, Sem.run_pure, Result.andThen_ok, invoke, builtin]
   simp only [List.map_toArray, List.map_cons, List.map_nil, hv, hv2, hr, Result.andThen_ok]
   rfl
 unfold Oper.wp
 rw [hrun2, Oper.upon_value, hd]
 rw [List.nil_append] at hR hE
 exact ⟨hdef, F, _, _, hk _ _, s.put hE hR hN (.v _), ex.trans hE⟩
end A
end Go.Proofs.YtgdfppjapnpcgaaDoor
namespace Go.Proofs.YtgdfppjapnpcgaaDoor
namespace A
/-- Weakening while a region draws: what was owned when its first call began is still owned. -/
theorem eWeak {P : Program} {N : Nat} {env : Env} {h : List HA} {K : Cont} {X : List (Nat × Cont)} {Rt : Cont} {ops : Array Oper} {ds : List Nat} {n : Nat} {l : Array Bool} {E0 : Env} {h0 : List HA} {env' : Env} {h' : List HA} (hw : Weak N env h env' h') (hk : ∀ b ∈ owns h0, b ∈ owns h') (h1 : ADraw2 P N ops ds n l E0 h0 env' h' K X Rt) : ADraw2 P N ops ds n l E0 h0 env h K X Rt := by
 intro B F0 w0 F a w s0 s e d hF hO hA
 obtain ⟨F', s', e'⟩ := hw F a w s
 exact h1 B F0 w0 F' a w s0 s' (e.trans e') d (fun b hb => e'.mono b (hF b hb)) (fun b hb => .inl (hk b hb)) hA
end A
end Go.Proofs.YtgdfppjapnpcgaaDoor
