/- More operations: slice expressions of settled slices. Over any program. -/
import Derived.Test.YtmcannmjielalaaAbs14
set_option linter.unusedVariables false
set_option linter.unusedSimpArgs false
namespace Go.Proofs.Ytmcannmjielalaa
namespace A

variable {P : Program} {N : Nat} {env : Env} {h : List HA} {K : Cont} {X : List (Nat × Cont)} {Rt : Cont}

/-- A bound of a slice expression: left out, or a number. -/
def BoundIs (env : Env) (x : Option Operand) (z n : Nat) : Prop := (x = none ∧ n = z) ∨ ∃ y k, x = some y ∧ ev env y = some (.v (.int k (n : Int)))
theorem bdN {z n : Nat} (h : n = z) : BoundIs env none z n := .inl ⟨rfl, h⟩
theorem bdI {y : Operand} {k : IntKind} {z n : Nat} (h : ev env y = some (.v (.int k (n : Int)))) : BoundIs env (some y) z n := .inr ⟨y, k, rfl, h⟩

theorem run_bounds {F : Nat → Prop} {a : Act} {w : World} (s : Sat N F env h a w) {lo hi : Option Operand} {l m len cap : Nat} (hl : BoundIs env lo 0 l) (hm : BoundIs env hi len m) (h1 : l ≤ m) (h2 : m ≤ cap) (b : Bool) (w' : World) :
    (Instr.sliceBounds b len cap (lo.map a.eval) (hi.map a.eval) none).run P w' = .ok (l, m, cap) w' := by
  have e1 : ∀ (y : Operand) (k : IntKind) (n : Nat), ev env y = some (.v (.int k (n : Int))) → a.eval y = .int k n := fun y k n hy => by
    have := s.ev hy
    generalize a.eval y = v at this
    cases this
    rfl
  have e2 : ∀ (k : IntKind) (n y : Nat) (c : BoundsCode), n ≤ y → (Instr.sliceBound (.int k n) y c).run P w' = .ok n w' := fun k n y c hn => by
    simp only [Instr.sliceBound, asIntOf, Sem.run_bind, Sem.run_pure, Result.andThen_ok]
    rw [if_pos ⟨by omega, by omega⟩]
    simp
  unfold Instr.sliceBounds
  rcases hl with ⟨rfl, rfl⟩ | ⟨y, k, rfl, hy⟩ <;> rcases hm with ⟨rfl, rfl⟩ | ⟨z, k', rfl, hz⟩
  · simp [Sem.run_bind, Result.andThen]
  · simp only [Option.map_none, Option.map_some, e1 z k' m hz, Sem.run_bind, Sem.run_pure, Result.andThen_ok, e2 k' m cap _ h2]
  · simp only [Option.map_none, Option.map_some, e1 y k l hy, Sem.run_bind, Sem.run_pure, Result.andThen_ok, e2 k l _ _ h1]
  · simp only [Option.map_some, e1 y k l hy, e1 z k' m hz, Sem.run_bind, Sem.run_pure, Result.andThen_ok, e2 k' m cap _ h2, e2 k l m _ h1]

theorem pSlice {o : Oper} {t : TypeId} {x : Operand} {lo hi : Option Operand} {sz l m : Nat} {es : List (List AV)} (ho : o.op = .slice t x lo hi none) (hx : ev env x = some (.sl sz es)) (ht : elemSize P t = some sz) (hl : BoundIs env lo 0 l) (hm : BoundIs env hi es.length m)
    (h1 : l ≤ m) (h2 : m ≤ es.length) : APure P N o env (.sl sz ((es.drop l).take (m - l))) := by
  intro F h a w st
  have hr := st.ev hx
  generalize hv : a.eval x = v at hr
  obtain ⟨el, g, hu, hs⟩ := elemSize_spec ht
  have hlen : ((es.drop l).take (m - l)).length = m - l := by simp; omega
  cases hr with
  | sl0 _ a0 c =>
    simp only [List.length_nil, Nat.le_zero] at h2
    obtain rfl : m = 0 := h2
    obtain rfl : l = 0 := by omega
    refine ⟨.slice (if c = 0 then a0 else a0.map (·.add (0 * sz))) 0 c, .sl0 _ _ _, fun w' => ?_⟩
    simp only [execOp, ho, hv, Instr.sliceAt, Instr.slice, Sem.run_bind, Sem.run_pure, Result.andThen_ok, run_underlying' hu, Option.map_none]
    have := run_bounds (P := P) st hl (len := 0) (cap := c) hm (by omega) (by omega) true w'
    simp only [this, Result.andThen_ok, run_sizeOf hs, Sem.run_bind, Sem.run_pure]
    simp
  | sl _ _ b p c X hF hc hz hX h1' hR =>
    have hrun : ∀ w', (execOp a.eval o).run P w' = .ok (.value (.slice (if c = l then some ⟨b, p, none⟩ else some ⟨b, p + l * sz, none⟩) (m - l) (c - l))) w' := fun w' => by
      simp only [execOp, ho, hv, Instr.sliceAt, Instr.slice, Sem.run_bind, Sem.run_pure, Result.andThen_ok, run_underlying' hu, Option.map_none]
      have := run_bounds (P := P) st hl (len := es.length) (cap := c) hm h1 (by omega) true w'
      simp only [this, Result.andThen_ok, run_sizeOf hs, Sem.run_bind, Sem.run_pure]
      simp [add_none]
    by_cases hlm : l = m
    · subst hlm
      refine ⟨_, ?_, hrun⟩
      simp only [Nat.sub_self, List.take_zero]
      exact .sl0 _ _ _
    · have hne : ¬ c = l := by omega
      rw [if_neg hne] at hrun
      refine ⟨_, ?_, hrun⟩
      have hget : ∀ i, i < m - l → ((es.drop l).take (m - l))[i]? = es[l + i]? := fun i hi => by rw [List.getElem?_take, if_pos hi, List.getElem?_drop]
      have := Rep.sl (F := F) (w := w) sz ((es.drop l).take (m - l)) b (p + l * sz) (c - l) (fun i j => X (l + i) j) hF (by rw [hlen]; omega) (fun e he => hz e (List.mem_of_mem_drop (List.mem_of_mem_take he)))
        (fun i j hi hj => by rw [hlen] at hi; have := hX (l + i) j (by omega) hj; rw [← this]; congr 2; rw [Nat.add_mul]; omega)
        (fun i j hi hj => h1' _ _ (by rw [hlen] at hi; omega) hj)
        (fun i j e av hi hj => by
          have hlt : i < m - l := by rw [← hlen]; exact (List.getElem?_eq_some_iff.1 hi).1
          rw [hget i hlt] at hi
          exact hR (l + i) j e av hi hj)
      rw [hlen] at this
      exact this

theorem pQuoI {o : Oper} {t t' : TypeId} {xo yo : Operand} {x y : Int} (ho : o.op = .binOp .quo t xo yo t') (hx : ev env xo = some (.int x)) (hy : ev env yo = some (.int y)) (h0 : y ≠ 0) (h1 : -9223372036854775808 ≤ x.tdiv y) (h2 : x.tdiv y < 9223372036854775808) : APure P N o env (.int (x.tdiv y)) := by
  have := pQuo (P := P) (N := N) ho hx hy h0
  rwa [wrap_i64 h1 h2] at this

theorem spl_last {x : HA} : ∀ {l : List HA}, Spl (l ++ [x]) x l
  | [] => .hd
  | _ :: _ => .tl spl_last
theorem tk_refl : ∀ {h : List HA}, Tk h h []
  | [] => .nil
  | _ :: _ => .cons .hd tk_refl
theorem tk_app : ∀ {t r : List HA}, Tk (t ++ r) t r
  | [], r => .nil
  | _ :: _, r => .cons .hd tk_app
theorem weak_env {env' : Env} (he : EnvSub env env') : Weak N env h env' h := weak_sub he tk_refl

theorem weak_heap {h' r : List HA} (ht : Tk h h' r) : Weak N env h env h' := fun F a w s =>
  ⟨F, ⟨s.r.sub ht, s.size, s.env⟩, (Ext.refl F h w).subR ht⟩

theorem YTriple.bool {l : Nat} {x : List AV} {A B : List HA → Prop} (t : YTriple P l x h (fun r h' => (r = .bool true ∧ A h') ∨ (r = .bool false ∧ B h'))) :
    YTriple P l x h (fun r h' => ∃ v : Bool, r = .v (.bool v) ∧ (v = true → A h') ∧ (v = false → B h')) := t.mono fun r h' hq => by
  rcases hq with ⟨rfl, ha⟩ | ⟨rfl, hb⟩
  · exact ⟨true, rfl, fun _ => ha, fun h => by cases h⟩
  · exact ⟨false, rfl, (fun h => by cases h), fun _ => hb⟩

/-! ### Steps of a region that draws its order, several of which may come up -/
open Go.Proofs.YtmcannmjielalaaW.PrintLast (wpAnyLast one_ two_ three_ readyB readyT)
def WantT (N : Nat) (ops : Array Oper) (o : Oper) (env : Env) (h : List HA) : Prop := ∀ F a w, Sat N F env h a w → Region.wanted o (yielded ops a.tmps) = true
theorem wantN {ops : Array Oper} {o : Oper} (hg : o.guard = none) : WantT N ops o env h := fun _ _ _ _ => by simp [Region.wanted, hg]
theorem wantG {ops : Array Oper} {o : Oper} {j dj : Nat} {want : Bool} {y : Value} (hg : o.guard = some (j, want)) (hj : (ops[j]?).bind (·.dst) = some dj) (hy : get env dj = some (.v y)) (hw : wants y want = true) : WantT N ops o env h := fun F a w s => by
  have hrep := s.env dj _ hy
  generalize hv : a.tmps.getD dj undef = z at hrep
  cases hrep
  have := yielded_wants (a := a) (want := want) hj hv
  simp only [Region.wanted, hg, this, hw]

def AStep (P : Program) (N : Nat) (ops : Array Oper) (ds : List Nat) (n : Nat) (l' : Array Bool) (o : Oper) (E0 : Env) (h0 : List HA) (env : Env) (h : List HA) (K : Cont) (X : List (Nat × Cont)) (Rt : Cont) : Prop :=
  ∀ (B : Base) F0 w0 F a w, Sat N F0 E0 h0 a w0 → Sat N F env h a w → Ext B.F B.h B.w F h w → a.defers = B.D → (∀ b, F0 b → F b) → (∀ b ∈ owns h0, b ∈ owns h ∨ F b) → Agree F0 h0 w0 w →
    ∀ K' : Act → World → Prop, Shut (∀ a' w', Agree F0 h0 w0 w' → (Agree F0 h0 w0 w' → wpAnyLast P .any ops (PostOf N B K X Rt) (Agree F0 h0 w0) ds n l' a' w') → K' a' w') →
      if Region.wanted o (yielded ops a.tmps) = true then Oper.wp P o a w K' (PostOf N B K X Rt) else K' (a.put o.dst undef) w

theorem stQ {ops : Array Oper} {ds : List Nat} {n : Nat} {o : Oper} {l' : Array Bool} {E0 : Env} {h0 : List HA} (hw : WantT N ops o env h) (hN : ∀ t, o.dst = some t → t < N)
    (hk : AOpQ P N o env h (fun env' h' => ADraw2 P N ops ds n l' (match o.dst with | some t => del t E0 | none => E0) h0 env' h' K X Rt)) : AStep P N ops ds n l' o E0 h0 env h K X Rt := by
  intro B F0 w0 F a w s0 s e hdef hF hO hS K' hK'
  rw [if_pos (hw F a w s)]
  refine Oper.wp_mono ?_ (puts o a w _ _ (hk B F a w _ s e hdef))
  intro a' w' ⟨⟨hd', F', env', h', hk', s', e', hag, hF', hO'⟩, x, D, ha⟩
  have hS' : Agree F0 h0 w0 w' := fun b hb => by
    rw [hag b (by rcases hb with hb | hb; exact .inl (hF b hb); exact (hO b hb).symm), hS b hb]
  refine hK'.out a' w' hS' (fun _ => hk' B F0 w0 F' a' w' (s0.delD hN ha) s' e' hd' (fun b hb => hF' b (hF b hb)) (fun b hb => ?_) hS')
  rcases hO b hb with h1 | h1
  · exact hO' b h1
  · exact .inr (hF' b h1)

/-- An operation that changes what is no part of what stood at the start. -/
theorem stA {ops : Array Oper} {ds : List Nat} {n : Nat} {o : Oper} {l' : Array Bool} {E0 : Env} {h0 hx rest r0 : List HA} (hw : WantT N ops o env h) (hN : ∀ t, o.dst = some t → t < N) (ht : Tk h hx rest) (ht0 : Tk rest h0 r0)
    (hk : AOp P N o env hx (fun env' h' => ADraw2 P N ops ds n l' (match o.dst with | some t => del t E0 | none => E0) h0 env' (h' ++ rest) K X Rt)) : AStep P N ops ds n l' o E0 h0 env h K X Rt := by
  intro B F0 w0 F a w s0 s e hdef hF hO hS K' hK'
  rw [if_pos (hw F a w s)]
  have rp := s.r.perm ht.perm
  have hnd : (owns hx ++ owns rest).Nodup := by rw [← owns_append]; exact rp.nd
  refine Oper.wp_mono ?_ (puts o a w _ _ (hk ⟨F, hx, w, a.defers⟩ F a w _ ⟨s.r.sub ht, s.size, s.env⟩ (.refl F hx w) rfl))
  intro a' w' ⟨⟨hd', F', env', h', hk', s', e'⟩, x, D, ha⟩
  obtain ⟨R2, E2⟩ := rp.frame s'.r e'
  have hrest : ∀ b ∈ owns h0, b ∈ owns rest := fun b hb => (owns_perm ht0.perm).mem_iff.2 (by rw [owns_append]; exact List.mem_append_left _ hb)
  have hS' : Agree F0 h0 w0 w' := fun b hb => by
    have hk1 : w'.heap[b]? = w.heap[b]? := by
      rcases hb with hb | hb
      · exact e'.keep b (s.r.sep b (hF b hb)).1 (fun hm => (s.r.sep b (hF b hb)).2 ((owns_perm ht.perm).mem_iff.2 (by rw [owns_append]; exact List.mem_append_left _ hm)))
      · exact e'.keep b (rp.lt b (by rw [owns_append]; exact List.mem_append_right _ (hrest b hb))) (fun hm => (List.nodup_append.1 hnd).2.2 b hm b (hrest b hb) rfl)
    rw [hk1, hS b hb]
  refine hK'.out a' w' hS' (fun _ => hk' B F0 w0 F' a' w' (s0.delD hN ha) ⟨R2, s'.size, s'.env⟩ (e.trans (E2.permL ht.perm.symm)) (hd'.trans hdef) (fun b hb => e'.mono b (hF b hb)) (fun b hb => .inl (by rw [owns_append]; exact List.mem_append_right _ (hrest b hb))) hS')

theorem eOneS {ops : Array Oper} {ds : List Nat} {n i : Nat} {o : Oper} {l : Array Bool} {E0 : Env} {h0 : List HA} (l' : Array Bool) (hi : ops[i]? = some o) (hc : readyB .any ops l l' i = true) (hd : i ∉ ds)
    (hk : AStep P N ops ds n l' o E0 h0 env h K X Rt) : ADraw2 P N ops ds (n + 1) l E0 h0 env h K X Rt := by
  intro B F0 w0 F a w s0 s e hdef hF hO hS
  exact one_ l' hi rfl hc hd (fun K' hK' => hk B F0 w0 F a w s0 s e hdef hF hO hS K' hK')

theorem eTwoS {ops : Array Oper} {ds : List Nat} {n i j : Nat} {oi oj : Oper} {l : Array Bool} {E0 : Env} {h0 : List HA} (li lj : Array Bool) (hi : ops[i]? = some oi) (hj : ops[j]? = some oj) (hc : (Region.ready .any ops l == [i, j] && l.setIfInBounds i true == li && l.setIfInBounds j true == lj) = true) (hdi : i ∉ ds) (hdj : j ∉ ds)
    (hki : AStep P N ops ds n li oi E0 h0 env h K X Rt) (hkj : AStep P N ops ds n lj oj E0 h0 env h K X Rt) : ADraw2 P N ops ds (n + 1) l E0 h0 env h K X Rt := by
  intro B F0 w0 F a w s0 s e hdef hF hO hS
  exact two_ li lj hi hj rfl rfl hc hdi hdj (fun K' hK' => hki B F0 w0 F a w s0 s e hdef hF hO hS K' hK') (fun K' hK' => hkj B F0 w0 F a w s0 s e hdef hF hO hS K' hK')

theorem eThreeS {ops : Array Oper} {ds : List Nat} {n i j k : Nat} {oi oj ok : Oper} {l : Array Bool} {E0 : Env} {h0 : List HA} (li lj lk : Array Bool) (hi : ops[i]? = some oi) (hj : ops[j]? = some oj) (hk : ops[k]? = some ok) (hc : (Region.ready .any ops l == [i, j, k] && l.setIfInBounds i true == li && l.setIfInBounds j true == lj && l.setIfInBounds k true == lk) = true) (hdi : i ∉ ds) (hdj : j ∉ ds) (hdk : k ∉ ds)
    (hki : AStep P N ops ds n li oi E0 h0 env h K X Rt) (hkj : AStep P N ops ds n lj oj E0 h0 env h K X Rt) (hkk : AStep P N ops ds n lk ok E0 h0 env h K X Rt) : ADraw2 P N ops ds (n + 1) l E0 h0 env h K X Rt := by
  intro B F0 w0 F a w s0 s e hdef hF hO hS
  exact three_ li lj lk hi hj hk rfl rfl rfl hc hdi hdj hdk (fun K' hK' => hki B F0 w0 F a w s0 s e hdef hF hO hS K' hK') (fun K' hK' => hkj B F0 w0 F a w s0 s e hdef hF hO hS K' hK') (fun K' hK' => hkk B F0 w0 F a w s0 s e hdef hF hO hS K' hK')

open Go.Proofs.YtmcannmjielalaaW.PrintLast (ready_eq set_of)
theorem Tab.two {ops : Array Oper} {T : Bool × List (List Nat × List Nat)} {Bs : List Nat} {l li lj : Array Bool} {i j : Nat} (t : Tab ops T Bs) (h : (readyT T.2 l.toList == [i, j] && l.toList.set i true == li.toList && l.toList.set j true == lj.toList) = true) :
    (Region.ready .any ops l == [i, j] && l.setIfInBounds i true == li && l.setIfInBounds j true == lj) = true := by
  have hT := t.t
  subst hT
  simp only [Bool.and_eq_true] at h ⊢
  exact ⟨⟨by rw [ready_eq]; exact h.1.1, set_of h.1.2⟩, set_of h.2⟩
theorem Tab.three {ops : Array Oper} {T : Bool × List (List Nat × List Nat)} {Bs : List Nat} {l li lj lk : Array Bool} {i j k : Nat} (t : Tab ops T Bs) (h : (readyT T.2 l.toList == [i, j, k] && l.toList.set i true == li.toList && l.toList.set j true == lj.toList && l.toList.set k true == lk.toList) = true) :
    (Region.ready .any ops l == [i, j, k] && l.setIfInBounds i true == li && l.setIfInBounds j true == lj && l.setIfInBounds k true == lk) = true := by
  have hT := t.t
  subst hT
  simp only [Bool.and_eq_true] at h ⊢
  exact ⟨⟨⟨by rw [ready_eq]; exact h.1.1.1, set_of h.1.1.2⟩, set_of h.1.2⟩, set_of h.2⟩

/-- Within a step: the slot was not known at the start. -/
theorem stF {ops : Array Oper} {ds : List Nat} {n d : Nat} {l' : Array Bool} {o : Oper} {E0 : Env} {h0 : List HA} (hd : o.dst = some d) (hf : get E0 d = none) (hk : ADraw2 P N ops ds n l' E0 h0 env h K X Rt) :
    ADraw2 P N ops ds n l' (match o.dst with | some t => del t E0 | none => E0) h0 env h K X Rt := by
  rw [hd]
  exact undel hf hk

end A
end Go.Proofs.Ytmcannmjielalaa
