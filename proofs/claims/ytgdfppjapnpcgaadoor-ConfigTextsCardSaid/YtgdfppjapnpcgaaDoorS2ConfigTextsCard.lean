/- Texts that ConfigTextsCard's proof rests on, part 3. -/
import Derived.OrdersIn
import Derived.Test.YtgdfppjapnpcgaaDoorS1ConfigTextsCard
set_option linter.unusedVariables false
set_option linter.unusedSimpArgs false
namespace Go.Proofs.YtgdfppjapnpcgaaDoor
namespace A
open Go.Proofs.YtgdfppjapnpcgaaDoorW.PrintLast (wpAnyLast take_ pure_ one_ last_ done_ takeB anyB readyB)
variable {P : Program} {N : Nat} {env : Env} {h : List HA} {K : Cont} {X : List (Nat × Cont)} {Rt : Cont}
/-! ### One operation -/
def AOp (P : Program) (N : Nat) (o : Oper) (env : Env) (h : List HA) (K : Cont) : Prop :=
 ∀ (B : Base) F a w Q, Sat N F env h a w → Ext B.F B.h B.w F h w → a.defers = B.D → o.wp P a w (Good N B K) Q
def Agree (F : Nat → Prop) (h : List HA) (w w' : World) : Prop := ∀ b, (F b ∨ b ∈ owns h) → w'.heap[b]? = w.heap[b]?
theorem Agree.refl {F : Nat → Prop} {h : List HA} {w : World} : Agree F h w w := fun _ _ => rfl
/-- It reads: whatever the world is beside what is known, the value is this. -/
def ARead (P : Program) (N : Nat) (o : Oper) (env : Env) (h : List HA) (av : AV) : Prop :=
 ∀ F a w, Sat N F env h a w → ∃ x, Rep F w av x ∧ ∀ w', Agree F h w w' → (execOp a.eval o).run P w' = .ok (.value x) w'
/-- It reckons: whatever the world is. -/
def APure (P : Program) (N : Nat) (o : Oper) (env : Env) (av : AV) : Prop :=
 ∀ F h a w, Sat N F env h a w → ∃ x, Rep F w av x ∧ ∀ w', (execOp a.eval o).run P w' = .ok (.value x) w'
theorem APure.read {o : Oper} {av : AV} (p : APure P N o env av) : ARead P N o env h av := fun F a w s => let ⟨x, r, e⟩ := p F h a w s; ⟨x, r, fun w' _ => e w'⟩
theorem aRead {o : Oper} {av : AV} {d : Nat} (hr : ARead P N o env h av) (hd : o.dst = some d) (hN : d < N) (hk : K ((d, av) :: env) h) : AOp P N o env h K := by
 intro B F a w Q s e hdef
 obtain ⟨x, hx, hrun⟩ := hr F a w s
 unfold Oper.wp
 rw [hrun w .refl, Oper.upon_value, hd]
 exact ⟨hdef, F, _, h, hk, s.put (.refl F h w) s.r hN hx, e⟩
theorem aPure {o : Oper} {av : AV} {d : Nat} (hr : APure P N o env av) (hd : o.dst = some d) (hN : d < N) (hk : K ((d, av) :: env) h) : AOp P N o env h K := aRead hr.read hd hN hk
/-! ### What is shown of an operation holds within the fence, and in a round -/
theorem rows_in {row : String} {args : Array Value} {w : World} {R : Value → World → Prop} (h : Rows P row args w R) : RowsIn Fence.wide 0 P row args w R :=
 fun c cs _ => let ⟨v, w', r, s⟩ := h c cs; ⟨v, w', r, stepsIn_wide.2 s⟩
theorem oper_in {o : Oper} {a : Act} {w : World} {next : Act → World → Prop} {Q : Exit → Act → World → Prop} (h : o.wp P a w next Q) : o.wpIn Fence.wide 0 P a w next Q := by
 refine ⟨fun _ _ => trivial, ?_⟩
 show o.uponIn Fence.wide 0 P a next Q ((execOp a.eval o).run P w)
 unfold Oper.wp at h
 generalize (execOp a.eval o).run P w = r at *
 cases r with
 | ok x w' =>
   cases x <;> simp only [Oper.upon, Oper.uponIn] at h ⊢
   all_goals first
     | exact h
     | exact ⟨fun hh => by simp [Fence.wide] at hh, callsIn_wide.2 (Calls.mono h (fun e w'' he => by cases e <;> exact he))⟩
     | exact ⟨fun hh => by simp [Fence.wide] at hh, rows_in h⟩
     | exact h.elim
 | halt x w' => cases x <;> simp only [Oper.upon, Oper.uponIn] at h ⊢ <;> exact h
def noDefer (ops : Array Oper) : Bool := ops.toList.all fun o => match o.op with
 | .defer _ => false
 | _ => true
theorem noDefer_spec {ops : Array Oper} (h : noDefer ops = true) {i : Nat} {o : Oper} (hi : ops[i]? = some o) : ∀ c, o.op ≠ .defer c := by
 intro c hc
 have := List.all_eq_true.1 h o (by simpa using Array.mem_of_getElem? hi)
 rw [hc] at this
 cases this
theorem oper_ro {ro : Option Nat} {o : Oper} {a : Act} {w : World} {next : Act → World → Prop} {Q : Exit → Act → World → Prop} (hd : ∀ c, o.op ≠ .defer c) (h : o.wpIn Fence.wide 0 P a w next Q) : o.wpIn (Fr ro) 0 P a w next Q := by
 refine ⟨fun _ _ => trivial, ?_⟩
 rw [Oper.semAt_eq _ _ _ hd]
 have h2 : o.uponIn Fence.wide 0 P a next Q ((execOp a.eval o).run P w) := h.2
 generalize (execOp a.eval o).run P w = r at *
 cases r with
 | ok x w' => cases x <;> exact h2
 | halt x w' => cases x <;> exact h2
theorem opsIn_ro {ro : Option Nat} {ops : Array Oper} {Q : Exit → Act → World → Prop} (hnd : noDefer ops = true) : ∀ (l : List Nat) (a : Act) (w : World), wpOpsIn Fence.wide 0 P ops Q l a w → wpOpsIn (Fr ro) 0 P ops Q l a w
 | [], _, _, h => h
 | i :: l, a, w, h => by
   rw [wpOpsIn_cons] at h ⊢
   unfold wpOpIn at h ⊢
   cases hi : ops[i]? with
   | none => simp only [hi] at h ⊢; exact opsIn_ro hnd l a w h
   | some o =>
     simp only [hi] at h ⊢
     split
     ·rename_i hw
      rw [if_pos hw] at h
      exact oper_ro (noDefer_spec hnd hi) (Oper.wpIn_mono (fun a w h => opsIn_ro hnd l a w h) h)
     ·rename_i hw
      rw [if_neg hw] at h
      exact ⟨fun _ _ => trivial, opsIn_ro hnd l _ w h.2⟩
theorem ops_in {ops : Array Oper} {Q : Exit → Act → World → Prop} (hQ : ¬ LetsOut Q) : ∀ (l : List Nat) (a : Act) (w : World), wpOps P ops Q l a w → wpOpsIn Fence.wide 0 P ops Q l a w
 | [], _, _, h => h
 | i :: l, a, w, h => by
   rw [wpOps_cons] at h
   rw [wpOpsIn_cons]
   unfold wpOp at h
   unfold wpOpIn
   cases hi : ops[i]? with
   | none => simp only [hi] at h ⊢; exact ops_in hQ l a w h
   | some o =>
     simp only [hi] at h ⊢
     split
     ·rename_i hw
      rw [if_pos hw] at h
      rcases h with h | h
      ·exact Oper.wpIn_mono (fun a w h => ops_in hQ l a w h) (oper_in h)
      ·exact absurd h.2 hQ
     ·rename_i hw
      rw [if_neg hw] at h
      exact ⟨fun _ _ => trivial, ops_in hQ l _ w h⟩
theorem noLets {B : Base} : ¬ LetsOut (PostOf N B K X Rt) := fun ⟨_, _, h⟩ => h
/-! ### A region in the text's order -/
def AOps (P : Program) (N : Nat) (ops : Array Oper) (rest : List Oper) (env : Env) (h : List HA) (K : Cont) (X : List (Nat × Cont)) (Rt : Cont) : Prop :=
 ∀ (B : Base) k F a w, ops.toList.drop k = rest → Sat N F env h a w → Ext B.F B.h B.w F h w → a.defers = B.D → wpOpsIn Fence.wide 0 P ops (PostOf N B K X Rt) ((List.range ops.size).drop k) a w
theorem aReg {id : Nat} {ops : Array Oper} (h1 : AOps P N ops ops.toList env h K X Rt) (hnd : noDefer ops = true := by rfl) : AWP P N (.region id ops false) env h K X Rt :=
 fun ro F a w _ s => wpIn_region (opsIn_ro hnd _ a w (by simpa using h1 ⟨F, h, w, a.defers⟩ 0 F a w rfl s (.refl F h w) rfl))
theorem oNil {ops : Array Oper} (hk : K env h) : AOps P N ops [] env h K X Rt := by
 intro B k F a w hr s e d
 have hle : ops.size ≤ k := by simpa using hr
 have : (List.range ops.size).drop k = [] := by simpa using hle
 rw [this]
 exact Good.m ⟨d, F, env, h, hk, s, e⟩
theorem range_drop {ops : Array Oper} {o : Oper} {rest : List Oper} {k : Nat} (hr : ops.toList.drop k = o :: rest) :
   ops[k]? = some o ∧ ops.toList.drop (k + 1) = rest ∧ (List.range ops.size).drop k = k :: (List.range ops.size).drop (k + 1) := by
 have hlt : k < ops.size := by
   rcases Nat.lt_or_ge k ops.size with h | h
   ·exact h
   ·rw [List.drop_eq_nil_of_le (by simpa using h)] at hr; cases hr
 refine ⟨?_, ?_, ?_⟩
 ·have h1 : (ops.toList.drop k)[0]? = some o := by rw [hr]; rfl
  rw [List.getElem?_drop] at h1
  simpa using h1
 ·rw [← List.drop_drop, hr]; rfl
 ·rw [List.drop_eq_getElem_cons (by simpa using hlt)]; simp
theorem oCons {ops : Array Oper} {o : Oper} {rest : List Oper} (hg : o.guard = none) (h1 : AOp P N o env h (fun env' h' => AOps P N ops rest env' h' K X Rt)) : AOps P N ops (o :: rest) env h K X Rt := by
 intro B k F a w hr s e d
 obtain ⟨h2, h3, h4⟩ := range_drop hr
 rw [h4, wpOpsIn_cons]
 unfold wpOpIn
 simp only [h2, Region.wanted, hg, if_true]
 refine oper_in (Oper.wp_mono ?_ (h1 B F a w _ s e d))
 intro a' w' ⟨hd, F', env', h', hk, s', e'⟩
 exact hk B (k + 1) F' a' w' h3 s' e' hd
/-- Does a guard's value let the operation run? -/
def wants : Value → Bool → Bool
 | .bool b, w => b == w
 | _, _ => false
theorem yielded_wants {ops : Array Oper} {j d : Nat} {a : Act} {x : Value} {want : Bool} (hj : (ops[j]?).bind (·.dst) = some d) (hx : a.tmps.getD d undef = x) :
   (yielded ops a.tmps j == some want) = wants x want := by
 unfold yielded
 rw [hj]
 simp only [Option.bind_some]
 rw [Array.getD_eq_getD_getElem?] at hx
 cases hq : a.tmps[d]? with
 | none => rw [hq] at hx; simp only [Option.getD_none] at hx; subst hx; rfl
 | some y => rw [hq] at hx; simp only [Option.getD_some] at hx; subst hx; cases y <;> simp [wants]
theorem oGuard {ops : Array Oper} {o : Oper} {rest : List Oper} {j d : Nat} {want : Bool} {x : Value} (hg : o.guard = some (j, want)) (hj : (ops[j]?).bind (·.dst) = some d) (hx : get env d = some (.v x))
   (h1 : wants x want = true → AOp P N o env h (fun env' h' => AOps P N ops rest env' h' K X Rt))
   (h2 : wants x want = false → AOps P N ops rest (match o.dst with | some t => (t, .v undef) :: env | none => env) h K X Rt) (hN : ∀ t, o.dst = some t → t < N) : AOps P N ops (o :: rest) env h K X Rt := by
 intro B k F a w hr s e hdef
 obtain ⟨h3, h4, h5⟩ := range_drop hr
 rw [h5, wpOpsIn_cons]
 unfold wpOpIn
 have hrep := s.env d _ hx
 generalize hv : a.tmps.getD d undef = y at hrep
 cases hrep
 have hy := yielded_wants (a := a) (want := want) hj hv
 simp only [h3, Region.wanted, hg, hy]
 cases hw : wants x want with
 | true =>
   simp only [if_true]
   refine oper_in (Oper.wp_mono ?_ (h1 hw B F a w _ s e hdef))
   intro a' w' ⟨hd, F', env', h', hk, s', e'⟩
   exact hk B (k + 1) F' a' w' h4 s' e' hd
 | false =>
   simp only [Bool.false_eq_true, if_false]
   have := h2 hw
   cases hd : o.dst with
   | none => rw [hd] at this; exact ⟨fun _ _ => trivial, this B (k + 1) F a w h4 s e hdef⟩
   | some t =>
     rw [hd] at this
     exact ⟨fun _ _ => trivial, this B (k + 1) F (a.put (some t) undef) w h4 (s.put (.refl F h w) s.r (hN t hd) (.v undef)) e hdef⟩
/-! ### A region that draws its order: first what is read and reckoned at the start, then what acts -/
def ADraw (P : Program) (N : Nat) (ops : Array Oper) (ds : List Nat) (n : Nat) (l : Array Bool) (env : Env) (h : List HA) (K : Cont) (X : List (Nat × Cont)) (Rt : Cont) : Prop :=
 ∀ (B : Base) F a w, Sat N F env h a w → Ext B.F B.h B.w F h w → a.defers = B.D → wpAnyLast P .any ops (PostOf N B K X Rt) (Agree F h w) ds n l a w
/-- w0: the world in which the region's first call begins; E0: slots that were known then, or hang on such alone. -/
def ADraw2 (P : Program) (N : Nat) (ops : Array Oper) (ds : List Nat) (n : Nat) (l : Array Bool) (E0 : Env) (h0 : List HA) (env : Env) (h : List HA) (K : Cont) (X : List (Nat × Cont)) (Rt : Cont) : Prop :=
 ∀ (B : Base) F0 w0 F a w, Sat N F0 E0 h0 a w0 → Sat N F env h a w → Ext B.F B.h B.w F h w → a.defers = B.D → (∀ b, F0 b → F b) → (∀ b ∈ owns h0, b ∈ owns h ∨ F b) → Agree F0 h0 w0 w →
   wpAnyLast P .any ops (PostOf N B K X Rt) (Agree F0 h0 w0) ds n l a w
theorem aDraw {id : Nat} {ops : Array Oper} (ds : List Nat) (n : Nat) (l : Array Bool) (hm : P.follows .mixedOrders = true) (hn : ops.size = n) (hl : Array.replicate n false = l)
   (h1 : ADraw P N ops ds n l env h K X Rt) (hnd : noDefer ops = true := by rfl) : AWP P N (.region id ops true) env h K X Rt := by
 intro ro F a w _ s
 have hR : R F h w.drew := ⟨fun x hx => HARep.mono (w := w) (w' := w.drew) (fun _ h => h) (fun _ _ => rfl) (fun _ _ => rfl) (s.r.rep x hx), s.r.nd, s.r.lt, s.r.sep⟩
 have hE : Ext F h w F h w.drew := ⟨rfl, rfl, rfl, Nat.le_refl _, fun _ _ _ => rfl, fun _ h => .inl h, fun _ h => h, fun _ h => .inl h⟩
 have key := h1 ⟨F, h, w, a.defers⟩ F a w.drew (s.go hE hR) hE rfl
 subst hn
 subst hl
 refine wpIn_region_draw fun t => ?_
 simp only [Region.schedule, hm, Bool.true_or, if_true]
 exact opsIn_ro hnd _ a _ (ops_in noLets _ a _ (wpAny_sound ops.size t _ a _ (Go.Proofs.YtgdfppjapnpcgaaDoorW.PrintLast.wpAny_of_last _ _ _ _ key)))
theorem yields_read {ops : Array Oper} {o : Oper} {av : AV} {F : Nat → Prop} {a : Act} {w : World} (hg : o.guard = none) (s : Sat N F env h a w) (hr : ARead P N o env h av) :
   ∃ x, Rep F w av x ∧ YieldsIf P ops (Agree F h w) o x a :=
 let ⟨x, hx, e⟩ := hr F a w s; ⟨x, hx, .inl ⟨by simp [Region.wanted, hg], fun w' hw => e w' hw⟩⟩
theorem dTake {ops : Array Oper} {ds : List Nat} {n i d : Nat} {o : Oper} {l : Array Bool} {av : AV} (l' : Array Bool) (hi : ops[i]? = some o) (hg : o.guard = none) (hd : o.dst = some d) (hc : takeB .any ops ds l l' i = true)
   (hr : ARead P N o env h av) (hN : d < N) (hk : ADraw P N ops ds n l' ((d, av) :: env) h K X Rt) : ADraw P N ops ds (n + 1) l env h K X Rt := by
 intro B F a w s e hdef
 obtain ⟨x, hx, hy⟩ := yields_read (ops := ops) hg s hr
 exact take_ l' hi hd hc (fun _ _ _ hp => hp.elim) hy .refl rfl (hk B F _ w (s.put (.refl F h w) s.r hN hx) e hdef)
theorem dPure {ops : Array Oper} {ds : List Nat} {n i d : Nat} {o : Oper} {l : Array Bool} {av : AV} (l' : Array Bool) (hi : ops[i]? = some o) (hg : o.guard = none) (hd : o.dst = some d) (hc : anyB .any ops l l' i = true)
   (hr : APure P N o env av) (hN : d < N) (hk : ADraw P N ops ds n l' ((d, av) :: env) h K X Rt) : ADraw P N ops ds (n + 1) l env h K X Rt := by
 intro B F a w s e hdef
 obtain ⟨x, hx, hy⟩ := hr F h a w s
 exact pure_ l' hi hd hc (fun _ _ _ hp => hp.elim) (.inl ⟨by simp [Region.wanted, hg], hy⟩) rfl (hk B F _ w (s.put (.refl F h w) s.r hN hx) e hdef)
theorem dGo {ops : Array Oper} {ds : List Nat} {n : Nat} {l : Array Bool} (hk : ADraw2 P N ops ds n l env h env h K X Rt) : ADraw P N ops ds n l env h K X Rt :=
 fun B F a w s e d => hk B F w F a w s s e d (fun _ h => h) (fun _ h => .inl h) .refl
def del (d : Nat) : Env → Env
 | [] => []
 | (k, av) :: t => cond (Nat.beq k d) (del d t) ((k, av) :: del d t)
theorem get_del {d k : Nat} {av : AV} : ∀ {E : Env}, get (del d E) k = some av → d ≠ k ∧ get E k = some av
 | [], h => by simp [del, get] at h
 | (j, aw) :: t, h => by
   simp only [del] at h
   by_cases hjd : j = d
   ·have hb : Nat.beq j d = true := by simp [hjd]
    rw [hb, cond_true] at h
    obtain ⟨h1, h2⟩ := get_del h
    exact ⟨h1, by simp only [get]; rw [beq_no (fun e => h1 (hjd.symm.trans e))]; exact h2⟩
   ·rw [beq_no hjd, cond_false] at h
    simp only [get] at h ⊢
    by_cases hjk : j = k
    ·have hb : Nat.beq j k = true := by simp [hjk]
     rw [hb] at h ⊢
     exact ⟨fun e => hjd (hjk.trans e.symm), h⟩
    ·rw [beq_no hjk] at h ⊢
     exact get_del h
theorem Sat.del {F0 : Nat → Prop} {E0 : Env} {h0 : List HA} {a : Act} {w0 : World} (s : Sat N F0 E0 h0 a w0) {d : Nat} (hd : d < N) (x : Value) : Sat N F0 (A.del d E0) h0 (a.put (some d) x) w0 :=
 ⟨s.r, by simp [Act.put, s.size], fun k av hk => by
   obtain ⟨h1, h2⟩ := get_del hk
   rw [getD_put (by rw [s.size]; exact hd), if_neg h1]
   exact s.env k av h2⟩
theorem rep_up {F0 F : Nat → Prop} {h0 : List HA} {w0 w : World} {av : AV} {x : Value} (hF : ∀ b, F0 b → F b) (hS : Agree F0 h0 w0 w) (hx : Rep F0 w0 av x) : Rep F w av x := hx.mono hF (fun b hb => hS b (.inl hb))
/-- Reckoned out of what stood at the start. -/
theorem ePureB {ops : Array Oper} {ds : List Nat} {n i d : Nat} {o : Oper} {l : Array Bool} {av : AV} {E0 : Env} {h0 : List HA} (l' : Array Bool) (hi : ops[i]? = some o) (hg : o.guard = none) (hd : o.dst = some d) (hc : anyB .any ops l l' i = true)
   (hr : APure P N o E0 av) (hN : d < N) (hk : ADraw2 P N ops ds n l' ((d, av) :: E0) h0 ((d, av) :: env) h K X Rt) : ADraw2 P N ops ds (n + 1) l E0 h0 env h K X Rt := by
 intro B F0 w0 F a w s0 s e hdef hF hO hS
 obtain ⟨x, hx, hy⟩ := hr F0 h0 a w0 s0
 exact pure_ l' hi hd hc (fun _ _ _ hp => hp.elim) (.inl ⟨by simp [Region.wanted, hg], hy⟩) rfl (hk B F0 w0 F _ w (s0.put (.refl F0 h0 w0) s0.r hN hx) (s.put (.refl F h w) s.r hN (rep_up hF hS hx)) e hdef hF hO hS)
theorem ePure {ops : Array Oper} {ds : List Nat} {n i d : Nat} {o : Oper} {l : Array Bool} {av : AV} {E0 : Env} {h0 : List HA} (l' : Array Bool) (hi : ops[i]? = some o) (hg : o.guard = none) (hd : o.dst = some d) (hc : anyB .any ops l l' i = true)
   (hr : APure P N o env av) (hN : d < N) (hk : ADraw2 P N ops ds n l' (del d E0) h0 ((d, av) :: env) h K X Rt) : ADraw2 P N ops ds (n + 1) l E0 h0 env h K X Rt := by
 intro B F0 w0 F a w s0 s e hdef hF hO hS
 obtain ⟨x, hx, hy⟩ := hr F h a w s
 exact pure_ l' hi hd hc (fun _ _ _ hp => hp.elim) (.inl ⟨by simp [Region.wanted, hg], hy⟩) rfl (hk B F0 w0 F _ w (s0.del hN x) (s.put (.refl F h w) s.r hN hx) e hdef hF hO hS)
/-- Read out of what stood at the start. -/
theorem eTake {ops : Array Oper} {ds : List Nat} {n i d : Nat} {o : Oper} {l : Array Bool} {av : AV} {E0 : Env} {h0 : List HA} (l' : Array Bool) (hi : ops[i]? = some o) (hg : o.guard = none) (hd : o.dst = some d) (hc : takeB .any ops ds l l' i = true)
   (hr : ARead P N o E0 h0 av) (hN : d < N) (hk : ADraw2 P N ops ds n l' ((d, av) :: E0) h0 ((d, av) :: env) h K X Rt) : ADraw2 P N ops ds (n + 1) l E0 h0 env h K X Rt := by
 intro B F0 w0 F a w s0 s e hdef hF hO hS
 obtain ⟨x, hx, hy⟩ := hr F0 a w0 s0
 exact take_ l' hi hd hc (fun _ _ _ hp => hp.elim) (.inl ⟨by simp [Region.wanted, hg], fun w' hw' => hy w' hw'⟩) hS rfl (hk B F0 w0 F _ w (s0.put (.refl F0 h0 w0) s0.r hN hx) (s.put (.refl F h w) s.r hN (rep_up hF hS hx)) e hdef hF hO hS)
/-- An operation that leaves all that is known as it is (a call that writes nothing of ours, something new). -/
def AOpQ (P : Program) (N : Nat) (o : Oper) (env : Env) (h : List HA) (K : Cont) : Prop :=
 ∀ (B : Base) F a w Q, Sat N F env h a w → Ext B.F B.h B.w F h w → a.defers = B.D →
   o.wp P a w (fun a' w' => a'.defers = B.D ∧ ∃ F' env' h', K env' h' ∧ Sat N F' env' h' a' w' ∧ Ext B.F B.h B.w F' h' w' ∧ Agree F h w w' ∧ (∀ b, F b → F' b) ∧ ∀ b ∈ owns h, b ∈ owns h' ∨ F' b) Q
theorem AOpQ.op {o : Oper} (q : AOpQ P N o env h K) : AOp P N o env h K :=
 fun B F a w Q s e d => Oper.wp_mono (fun a' w' ⟨hd, F', env', h', hk, s', e', _⟩ => ⟨hd, F', env', h', hk, s', e'⟩) (q B F a w Q s e d)
/-- What an operation does to the slots: it writes its own. -/
def Puts (P : Program) (o : Oper) : Prop := ∀ (a : Act) (w : World) (K : Act → World → Prop) (Q : Exit → Act → World → Prop), o.wp P a w K Q → o.wp P a w (fun a' w' => K a' w' ∧ ∃ x D, a' = { (a.put o.dst x) with defers := D }) Q
theorem puts (o : Oper) : Puts P o := by
 intro a w K Q h
 unfold Oper.wp at *
 generalize (execOp a.eval o).run P w = r at *
 cases r with
 | ok n w' =>
   cases n <;> simp only [Oper.upon] at h ⊢
   case value v => exact ⟨h, v, a.defers, by cases o.dst <;> rfl⟩
   case skip => exact ⟨h, undef, a.defers, by cases o.dst <;> rfl⟩
   case defer d => exact ⟨h, undef, d :: a.defers, by cases o.dst <;> rfl⟩
   case enter f args => exact Calls.mono h (fun e w'' he => by cases e <;> first | exact ⟨he, _, a.defers, by cases o.dst <;> rfl⟩ | exact he)
   case row row args => exact Rows.mono h (fun v w'' he => ⟨he, v, a.defers, by cases o.dst <;> rfl⟩)
 | halt x w' => cases x <;> simp only [Oper.upon] at h ⊢ <;> exact h
theorem Sat.delD {F0 : Nat → Prop} {E0 : Env} {h0 : List HA} {a a' : Act} {w0 : World} {d : Option Nat} {x : Value} {D : List Deferred} (s : Sat N F0 E0 h0 a w0) (hd : ∀ t, d = some t → t < N) (ha : a' = { (a.put d x) with defers := D }) : Sat N F0 (match d with | some t => A.del t E0 | none => E0) h0 a' w0 := by
 subst ha
 cases d with
 | none => exact ⟨s.r, s.size, s.env⟩
 | some t =>
   have := s.del (hd t rfl) x
   exact ⟨this.r, this.size, this.env⟩
theorem eOne {ops : Array Oper} {ds : List Nat} {n i : Nat} {o : Oper} {l : Array Bool} {E0 : Env} {h0 : List HA} (l' : Array Bool) (hi : ops[i]? = some o) (hg : o.guard = none) (hc : readyB .any ops l l' i = true) (hd : i ∉ ds) (hN : ∀ t, o.dst = some t → t < N)
   (hk : AOpQ P N o env h (fun env' h' => ADraw2 P N ops ds n l' (match o.dst with | some t => del t E0 | none => E0) h0 env' h' K X Rt)) : ADraw2 P N ops ds (n + 1) l E0 h0 env h K X Rt := by
 intro B F0 w0 F a w s0 s e hdef hF hO hS
 refine one_ l' hi rfl hc hd (fun K' hK' => ?_)
 rw [if_pos (by simp [Region.wanted, hg])]
 refine Oper.wp_mono ?_ (puts o a w _ _ (hk B F a w _ s e hdef))
 intro a' w' ⟨⟨hd', F', env', h', hk', s', e', hag, hF', hO'⟩, x, D, ha⟩
 have hS' : Agree F0 h0 w0 w' := fun b hb => by
   rw [hag b (by rcases hb with hb | hb; exact .inl (hF b hb); exact (hO b hb).symm), hS b hb]
 refine hK'.out a' w' hS' (fun _ => hk' B F0 w0 F' a' w' (s0.delD hN ha) s' e' hd' (fun b hb => hF' b (hF b hb)) (fun b hb => ?_) hS')
 rcases hO b hb with h1 | h1
 ·exact hO' b h1
 ·exact .inr (hF' b h1)
/-- Behind an operation of ds: nothing is read first any more. -/
def ADraw3 (P : Program) (N : Nat) (ops : Array Oper) (ds : List Nat) (n : Nat) (l : Array Bool) (env : Env) (h : List HA) (K : Cont) (X : List (Nat × Cont)) (Rt : Cont) : Prop :=
 ∀ (B : Base) S F a w, Sat N F env h a w → Ext B.F B.h B.w F h w → a.defers = B.D → wpAnyLast P .any ops (PostOf N B K X Rt) S ds n l a w
theorem eLast {ops : Array Oper} {ds : List Nat} {n : Nat} {l : Array Bool} {E0 : Env} {h0 : List HA} (hk : ADraw3 P N ops ds n l env h K X Rt) : ADraw2 P N ops ds n l E0 h0 env h K X Rt :=
 fun B F0 w0 F a w _ s e d _ _ _ => hk B _ F a w s e d
theorem fOne {ops : Array Oper} {ds : List Nat} {n i : Nat} {o : Oper} {l : Array Bool} (l' : Array Bool) (hi : ops[i]? = some o) (hg : o.guard = none) (hc : readyB .any ops l l' i = true) (hd : i ∈ ds)
   (hk : AOp P N o env h (fun env' h' => ADraw3 P N ops ds n l' env' h' K X Rt)) : ADraw3 P N ops ds (n + 1) l env h K X Rt := by
 intro B S F a w s e hdef
 refine last_ l' hi rfl hc hd (fun K' hK' => ?_)
 rw [if_pos (by simp [Region.wanted, hg])]
 refine Oper.wp_mono ?_ (hk B F a w _ s e hdef)
 intro a' w' ⟨hd', F', env', h', hk', s', e'⟩
 exact hK'.out a' w' (hk' B S F' a' w' s' e' hd')
theorem fPure {ops : Array Oper} {ds : List Nat} {n i d : Nat} {o : Oper} {l : Array Bool} {av : AV} (l' : Array Bool) (hi : ops[i]? = some o) (hg : o.guard = none) (hd : o.dst = some d) (hc : anyB .any ops l l' i = true)
   (hr : APure P N o env av) (hN : d < N) (hk : ADraw3 P N ops ds n l' ((d, av) :: env) h K X Rt) : ADraw3 P N ops ds (n + 1) l env h K X Rt := by
 intro B S F a w s e hdef
 obtain ⟨x, hx, hy⟩ := hr F h a w s
 exact pure_ l' hi hd hc (fun _ _ _ hp => hp.elim) (.inl ⟨by simp [Region.wanted, hg], hy⟩) rfl (hk B S F _ w (s.put (.refl F h w) s.r hN hx) e hdef)
theorem fEnd {ops : Array Oper} {ds : List Nat} {n : Nat} {l : Array Bool} (hr : (Region.ready .any ops l == []) = true) (hk : K env h) : ADraw3 P N ops ds n l env h K X Rt :=
 fun B S F a w s e d => done_ hr (Good.m ⟨d, F, env, h, hk, s, e⟩) 
theorem dEnd {ops : Array Oper} {ds : List Nat} {n : Nat} {l : Array Bool} (hr : (Region.ready .any ops l == []) = true) (hk : K env h) : ADraw P N ops ds n l env h K X Rt := dGo (eLast (fEnd hr hk))
/-! Guarded operations in such a region: whether one runs is decided first. -/
theorem yieldsIf_guard {ops : Array Oper} {o : Oper} {j d : Nat} {want : Bool} {x : Value} {F : Nat → Prop} {a : Act} {w : World} (hg : o.guard = some (j, want)) (hj : (ops[j]?).bind (·.dst) = some d) (hx : get env d = some (.v x)) (s : Sat N F env h a w) :
   Region.wanted o (yielded ops a.tmps) = wants x want := by
 have hrep := s.env d _ hx
 generalize hv : a.tmps.getD d undef = y at hrep
 cases hrep
 have hy := yielded_wants (a := a) (want := want) hj hv
 simp only [Region.wanted, hg, hy]
theorem dTakeG {ops : Array Oper} {ds : List Nat} {n i d j dj : Nat} {want : Bool} {y : Value} {o : Oper} {l : Array Bool} {av : AV} (l' : Array Bool) (hi : ops[i]? = some o) (hg : o.guard = some (j, want)) (hj : (ops[j]?).bind (·.dst) = some dj)
   (hy : get env dj = some (.v y)) (hw : wants y want = true) (hd : o.dst = some d) (hc : takeB .any ops ds l l' i = true)
   (hr : ARead P N o env h av) (hN : d < N) (hk : ADraw P N ops ds n l' ((d, av) :: env) h K X Rt) : ADraw P N ops ds (n + 1) l env h K X Rt := by
 intro B F a w s e hdef
 obtain ⟨x, hx, hrun⟩ := hr F a w s
 exact take_ l' hi hd hc (fun _ _ _ hp => hp.elim) (.inl ⟨by rw [yieldsIf_guard hg hj hy s]; exact hw, fun w' hw' => hrun w' hw'⟩) .refl rfl (hk B F _ w (s.put (.refl F h w) s.r hN hx) e hdef)
theorem dPureG {ops : Array Oper} {ds : List Nat} {n i d j dj : Nat} {want : Bool} {y : Value} {o : Oper} {l : Array Bool} {av : AV} (l' : Array Bool) (hi : ops[i]? = some o) (hg : o.guard = some (j, want)) (hj : (ops[j]?).bind (·.dst) = some dj)
   (hy : get env dj = some (.v y)) (hw : wants y want = true) (hd : o.dst = some d) (hc : anyB .any ops l l' i = true)
   (hr : APure P N o env av) (hN : d < N) (hk : ADraw P N ops ds n l' ((d, av) :: env) h K X Rt) : ADraw P N ops ds (n + 1) l env h K X Rt := by
 intro B F a w s e hdef
 obtain ⟨x, hx, hrun⟩ := hr F h a w s
 exact pure_ l' hi hd hc (fun _ _ _ hp => hp.elim) (.inl ⟨by rw [yieldsIf_guard hg hj hy s]; exact hw, fun w' => hrun w'⟩) rfl (hk B F _ w (s.put (.refl F h w) s.r hN hx) e hdef)
theorem dSkip {ops : Array Oper} {ds : List Nat} {n i d j dj : Nat} {want : Bool} {y : Value} {o : Oper} {l : Array Bool} (l' : Array Bool) (hi : ops[i]? = some o) (hg : o.guard = some (j, want)) (hj : (ops[j]?).bind (·.dst) = some dj)
   (hy : get env dj = some (.v y)) (hw : wants y want = false) (hd : o.dst = some d) (hc : anyB .any ops l l' i = true) (hN : d < N)
   (hk : ADraw P N ops ds n l' ((d, .v undef) :: env) h K X Rt) : ADraw P N ops ds (n + 1) l env h K X Rt := by
 intro B F a w s e hdef
 have h2 : Yields P ops o undef a := .inr ⟨by rw [yieldsIf_guard hg hj hy s]; exact hw, rfl⟩
 exact pure_ l' hi hd hc (fun _ _ _ hp => hp.elim) h2 rfl (hk B F _ w (s.put (.refl F h w) s.r hN (.v undef)) e hdef)
theorem eSkip {ops : Array Oper} {ds : List Nat} {n i d j dj : Nat} {want : Bool} {y : Value} {o : Oper} {l : Array Bool} {E0 : Env} {h0 : List HA} (l' : Array Bool) (hi : ops[i]? = some o) (hg : o.guard = some (j, want)) (hj : (ops[j]?).bind (·.dst) = some dj)
   (hy : get env dj = some (.v y)) (hw : wants y want = false) (hd : o.dst = some d) (hc : anyB .any ops l l' i = true) (hN : d < N)
   (hk : ADraw2 P N ops ds n l' (del d E0) h0 ((d, .v undef) :: env) h K X Rt) : ADraw2 P N ops ds (n + 1) l E0 h0 env h K X Rt := by
 intro B F0 w0 F a w s0 s e hdef hF hO hS
 have h2 : Yields P ops o undef a := .inr ⟨by rw [yieldsIf_guard hg hj hy s]; exact hw, rfl⟩
 exact pure_ l' hi hd hc (fun _ _ _ hp => hp.elim) h2 rfl (hk B F0 w0 F _ w (s0.del hN undef) (s.put (.refl F h w) s.r hN (.v undef)) e hdef hF hO hS)
theorem ePureG {ops : Array Oper} {ds : List Nat} {n i d j dj : Nat} {want : Bool} {y : Value} {o : Oper} {l : Array Bool} {av : AV} {E0 : Env} {h0 : List HA} (l' : Array Bool) (hi : ops[i]? = some o) (hg : o.guard = some (j, want)) (hj : (ops[j]?).bind (·.dst) = some dj)
   (hy : get env dj = some (.v y)) (hw : wants y want = true) (hd : o.dst = some d) (hc : anyB .any ops l l' i = true)
   (hr : APure P N o env av) (hN : d < N) (hk : ADraw2 P N ops ds n l' (del d E0) h0 ((d, av) :: env) h K X Rt) : ADraw2 P N ops ds (n + 1) l E0 h0 env h K X Rt := by
 intro B F0 w0 F a w s0 s e hdef hF hO hS
 obtain ⟨x, hx, hrun⟩ := hr F h a w s
 exact pure_ l' hi hd hc (fun _ _ _ hp => hp.elim) (.inl ⟨by rw [yieldsIf_guard hg hj hy s]; exact hw, fun w' => hrun w'⟩) rfl (hk B F0 w0 F _ w (s0.del hN x) (s.put (.refl F h w) s.r hN hx) e hdef hF hO hS)
theorem eOneG {ops : Array Oper} {ds : List Nat} {n i j dj : Nat} {want : Bool} {y : Value} {o : Oper} {l : Array Bool} {E0 : Env} {h0 : List HA} (l' : Array Bool) (hi : ops[i]? = some o) (hg : o.guard = some (j, want)) (hj : (ops[j]?).bind (·.dst) = some dj)
   (hy : get env dj = some (.v y)) (hw : wants y want = true) (hc : readyB .any ops l l' i = true) (hd : i ∉ ds) (hN : ∀ t, o.dst = some t → t < N)
   (hk : AOpQ P N o env h (fun env' h' => ADraw2 P N ops ds n l' (match o.dst with | some t => del t E0 | none => E0) h0 env' h' K X Rt)) : ADraw2 P N ops ds (n + 1) l E0 h0 env h K X Rt := by
 intro B F0 w0 F a w s0 s e hdef hF hO hS
 refine one_ l' hi rfl hc hd (fun K' hK' => ?_)
 rw [if_pos (by rw [yieldsIf_guard hg hj hy s]; exact hw)]
 refine Oper.wp_mono ?_ (puts o a w _ _ (hk B F a w _ s e hdef))
 intro a' w' ⟨⟨hd', F', env', h', hk', s', e', hag, hF', hO'⟩, x, D, ha⟩
 have hS' : Agree F0 h0 w0 w' := fun b hb => by
   rw [hag b (by rcases hb with hb | hb; exact .inl (hF b hb); exact (hO b hb).symm), hS b hb]
 refine hK'.out a' w' hS' (fun _ => hk' B F0 w0 F' a' w' (s0.delD hN ha) s' e' hd' (fun b hb => hF' b (hF b hb)) (fun b hb => ?_) hS')
 rcases hO b hb with h1 | h1
 ·exact hO' b h1
 ·exact .inr (hF' b h1)
/-! The same, where the slot was not known at the start. -/
theorem del_get {d k : Nat} {av : AV} : ∀ {E : Env}, d ≠ k → get E k = some av → get (del d E) k = some av
 | [], _, h => by simp [get] at h
 | (j, aw) :: t, hd, h => by
   simp only [get] at h
   simp only [del]
   by_cases hjd : j = d
   ·have hb : Nat.beq j d = true := by simp [hjd]
    rw [hb, cond_true]
    rw [beq_no (fun e => hd (hjd.symm.trans e))] at h
    exact del_get hd h
   ·rw [beq_no hjd, cond_false]
    simp only [get]
    by_cases hjk : j = k
    ·have hb : Nat.beq j k = true := by simp [hjk]
     rw [hb] at h ⊢
     exact h
    ·rw [beq_no hjk] at h ⊢
     exact del_get hd h
theorem undel {ops : Array Oper} {ds : List Nat} {n d : Nat} {l : Array Bool} {E0 : Env} {h0 : List HA} (hf : get E0 d = none) (hk : ADraw2 P N ops ds n l E0 h0 env h K X Rt) : ADraw2 P N ops ds n l (del d E0) h0 env h K X Rt :=
 fun B F0 w0 F a w s0 => hk B F0 w0 F a w ⟨s0.r, s0.size, fun k av hg => s0.env k av (del_get (fun e => by rw [e, hg] at hf; cases hf) hg)⟩
theorem ePureF {ops : Array Oper} {ds : List Nat} {n i d : Nat} {o : Oper} {l : Array Bool} {av : AV} {E0 : Env} {h0 : List HA} (l' : Array Bool) (hi : ops[i]? = some o) (hg : o.guard = none) (hd : o.dst = some d) (hf : get E0 d = none) (hc : anyB .any ops l l' i = true)
   (hr : APure P N o env av) (hN : d < N) (hk : ADraw2 P N ops ds n l' E0 h0 ((d, av) :: env) h K X Rt) : ADraw2 P N ops ds (n + 1) l E0 h0 env h K X Rt := ePure l' hi hg hd hc hr hN (undel hf hk)
theorem ePureGF {ops : Array Oper} {ds : List Nat} {n i d j dj : Nat} {want : Bool} {y : Value} {o : Oper} {l : Array Bool} {av : AV} {E0 : Env} {h0 : List HA} (l' : Array Bool) (hi : ops[i]? = some o) (hg : o.guard = some (j, want)) (hj : (ops[j]?).bind (·.dst) = some dj)
   (hy : get env dj = some (.v y)) (hw : wants y want = true) (hd : o.dst = some d) (hf : get E0 d = none) (hc : anyB .any ops l l' i = true)
   (hr : APure P N o env av) (hN : d < N) (hk : ADraw2 P N ops ds n l' E0 h0 ((d, av) :: env) h K X Rt) : ADraw2 P N ops ds (n + 1) l E0 h0 env h K X Rt := ePureG l' hi hg hj hy hw hd hc hr hN (undel hf hk)
theorem eSkipF {ops : Array Oper} {ds : List Nat} {n i d j dj : Nat} {want : Bool} {y : Value} {o : Oper} {l : Array Bool} {E0 : Env} {h0 : List HA} (l' : Array Bool) (hi : ops[i]? = some o) (hg : o.guard = some (j, want)) (hj : (ops[j]?).bind (·.dst) = some dj)
   (hy : get env dj = some (.v y)) (hw : wants y want = false) (hd : o.dst = some d) (hf : get E0 d = none) (hc : anyB .any ops l l' i = true) (hN : d < N)
   (hk : ADraw2 P N ops ds n l' E0 h0 ((d, .v undef) :: env) h K X Rt) : ADraw2 P N ops ds (n + 1) l E0 h0 env h K X Rt := eSkip l' hi hg hj hy hw hd hc hN (undel hf hk)
theorem eOneF {ops : Array Oper} {ds : List Nat} {n i d : Nat} {o : Oper} {l : Array Bool} {E0 : Env} {h0 : List HA} (l' : Array Bool) (hi : ops[i]? = some o) (hg : o.guard = none) (hd : o.dst = some d) (hf : get E0 d = none) (hc : readyB .any ops l l' i = true) (hds : i ∉ ds) (hN : d < N)
   (hk : AOpQ P N o env h (fun env' h' => ADraw2 P N ops ds n l' E0 h0 env' h' K X Rt)) : ADraw2 P N ops ds (n + 1) l E0 h0 env h K X Rt := by
 refine eOne l' hi hg hc hds (fun t ht => by rw [hd] at ht; cases ht; exact hN) ?_
 intro B F a w Q s e hdef
 refine Oper.wp_mono ?_ (hk B F a w Q s e hdef)
 intro a' w' ⟨hd', F', env', h', hk', rest⟩
 refine ⟨hd', F', env', h', ?_, rest⟩
 rw [hd]
 exact undel hf hk'
theorem eOneGF {ops : Array Oper} {ds : List Nat} {n i d j dj : Nat} {want : Bool} {y : Value} {o : Oper} {l : Array Bool} {E0 : Env} {h0 : List HA} (l' : Array Bool) (hi : ops[i]? = some o) (hg : o.guard = some (j, want)) (hj : (ops[j]?).bind (·.dst) = some dj)
   (hy : get env dj = some (.v y)) (hw : wants y want = true) (hd : o.dst = some d) (hf : get E0 d = none) (hc : readyB .any ops l l' i = true) (hds : i ∉ ds) (hN : d < N)
   (hk : AOpQ P N o env h (fun env' h' => ADraw2 P N ops ds n l' E0 h0 env' h' K X Rt)) : ADraw2 P N ops ds (n + 1) l E0 h0 env h K X Rt := by
 refine eOneG l' hi hg hj hy hw hc hds (fun t ht => by rw [hd] at ht; cases ht; exact hN) ?_
 intro B F a w Q s e hdef
 refine Oper.wp_mono ?_ (hk B F a w Q s e hdef)
 intro a' w' ⟨hd', F', env', h', hk', rest⟩
 refine ⟨hd', F', env', h', ?_, rest⟩
 rw [hd]
 exact undel hf hk'
open Go.Proofs.YtgdfppjapnpcgaaDoorW.PrintLast (rtab waitsOk anyT takeW any_of take_ofW one_of readyT done_of)
structure Tab (ops : Array Oper) (T : Bool × List (List Nat × List Nat)) (B : List Nat) : Prop where
 t : rtab .any ops = T
 b : waitsOk T.2 B = true
theorem aDrawT {id : Nat} {ops : Array Oper} {T : Bool × List (List Nat × List Nat)} {Bs : List Nat} (hT : rtab .any ops = T) (hB : waitsOk T.2 Bs = true) (ds : List Nat) (n : Nat) (l : Array Bool) (hm : P.follows .mixedOrders = true) (hn : ops.size = n) (hl : Array.replicate n false = l)
   (h1 : Tab ops T Bs → ADraw P N ops ds n l env h K X Rt) (hnd : noDefer ops = true := by rfl) : AWP P N (.region id ops true) env h K X Rt := aDraw ds n l hm hn hl (h1 ⟨hT, hB⟩) hnd
theorem Tab.any {ops : Array Oper} {T : Bool × List (List Nat × List Nat)} {Bs : List Nat} {l l' : Array Bool} {i : Nat} (t : Tab ops T Bs) (h : anyT T l.toList l'.toList i = true) : anyB .any ops l l' i = true := any_of t.t h
theorem Tab.take {ops : Array Oper} {T : Bool × List (List Nat × List Nat)} {Bs : List Nat} {l l' : Array Bool} {ds : List Nat} {i : Nat} (t : Tab ops T Bs) (h : takeW T Bs ds l.toList l'.toList i = true) : takeB .any ops ds l l' i = true := take_ofW t.t t.b h
theorem Tab.one {ops : Array Oper} {T : Bool × List (List Nat × List Nat)} {Bs : List Nat} {l l' : Array Bool} {i : Nat} (t : Tab ops T Bs) (h : (readyT T.2 l.toList == [i] && l.toList.set i true == l'.toList) = true) : readyB .any ops l l' i = true := one_of t.t h
theorem Tab.done {ops : Array Oper} {T : Bool × List (List Nat × List Nat)} {Bs : List Nat} {l : Array Bool} (t : Tab ops T Bs) (h : (readyT T.2 l.toList == []) = true) : (Region.ready .any ops l == []) = true := done_of t.t h
end A
end Go.Proofs.YtgdfppjapnpcgaaDoor
namespace Go.Proofs.YtgdfppjapnpcgaaDoor
namespace A
variable {P : Program} {N : Nat} {env : Env} {h : List HA} {K : Cont} {X : List (Nat × Cont)} {Rt : Cont}
/-! ### Taking one assertion out of those that are known -/
inductive Spl : List HA → HA → List HA → Prop
 | hd {x : HA} {t : List HA} : Spl (x :: t) x t
 | tl {x y : HA} {t t' : List HA} : Spl t y t' → Spl (x :: t) y (x :: t')
theorem Spl.perm {h h' : List HA} {x : HA} (s : Spl h x h') : h.Perm (x :: h') := by
 induction s with
 | hd => exact .refl _
 | tl _ ih => exact (ih.cons _).trans (List.Perm.swap _ _ _)
theorem owns_perm {h k : List HA} (p : h.Perm k) : (owns h).Perm (owns k) := p.flatMap_right _
theorem R.perm {F : Nat → Prop} {h k : List HA} {w : World} (p : h.Perm k) (r : R F h w) : R F k w where
 rep := fun x hx => r.rep x (p.mem_iff.2 hx)
 nd := (owns_perm p).nodup_iff.1 r.nd
 lt := fun b hb => r.lt b ((owns_perm p).mem_iff.2 hb)
 sep := fun b hb => ⟨(r.sep b hb).1, fun hm => (r.sep b hb).2 ((owns_perm p).mem_iff.2 hm)⟩
theorem Ext.permL {F : Nat → Prop} {h k : List HA} {w : World} {F' : Nat → Prop} {h' : List HA} {w' : World} (p : h.Perm k) (e : Ext F h w F' h' w') : Ext F k w F' h' w' :=
 ⟨e.os, e.output, e.tape, e.size, fun b hb hn => e.keep b hb (fun hm => hn ((owns_perm p).mem_iff.1 hm)), fun b hb => (e.sub b hb).imp (owns_perm p).mem_iff.1 id, e.mono, fun b hb => (e.new b hb).imp id (Or.imp (owns_perm p).mem_iff.1 id)⟩
/-- Of h the assertions t, and the others. -/
inductive Tk : List HA → List HA → List HA → Prop
 | nil {h : List HA} : Tk h [] h
 | cons {h h1 r : List HA} {x : HA} {t : List HA} : Spl h x h1 → Tk h1 t r → Tk h (x :: t) r
theorem Tk.perm {h t r : List HA} (k : Tk h t r) : h.Perm (t ++ r) := by
 induction k with
 | nil => exact .refl _
 | cons s _ ih => exact s.perm.trans (ih.cons _)
theorem R.sub {F : Nat → Prop} {w : World} {t r : List HA} (k : Tk h t r) (hr : R F h w) : R F t w := by
 have hr1 := hr.perm k.perm
 refine ⟨fun x hx => hr1.rep x (List.mem_append_left _ hx), ?_, fun b hb => hr1.lt b (by rw [owns_append]; exact List.mem_append_left _ hb), fun b hb => ⟨(hr1.sep b hb).1, fun hm => (hr1.sep b hb).2 (by rw [owns_append]; exact List.mem_append_left _ hm)⟩⟩
 have := hr1.nd
 rw [owns_append] at this
 exact (List.nodup_append.1 this).1
theorem Ext.subR {F : Nat → Prop} {w : World} {F' : Nat → Prop} {h' t r : List HA} {w' : World} (k : Tk h' t r) (e : Ext F h w F' h' w') : Ext F h w F' t w' :=
 ⟨e.os, e.output, e.tape, e.size, e.keep, fun b hb => e.sub b ((owns_perm k.perm).mem_iff.2 (by rw [owns_append]; exact List.mem_append_left _ hb)), e.mono, e.new⟩
/-! ### Contracts -/
def Reps (F : Nat → Prop) (w : World) (args : List AV) (vs : Array Value) : Prop := vs.size = args.length ∧ ∀ (i : Nat) av x, args[i]? = some av → vs[i]? = some x → Rep F w av x
def HasBody (P : Program) (f : FuncId) : Prop := ∃ fn, P.funcs[f]? = some fn ∧ (fn.name == "runtime.NumGoroutine") = false ∧ fn.body.isNone = false
/-- Called with these arguments, and owning what h says, it returns, and what Q says holds of the result and of what is owned then. -/
def Triple (P : Program) (f : FuncId) (args : List AV) (h : List HA) (Q : AV → List HA → Prop) : Prop :=
 HasBody P f ∧ ∀ F w vs, R F h w → Reps F w args vs →
   Calls P f vs w fun e w' => ∃ r x h' F', e = .returned x ∧ Q r h' ∧ Rep F' w' r x ∧ R F' h' w' ∧ Ext F h w F' h' w'
theorem Triple.mono {f : FuncId} {args : List AV} {Q Q' : AV → List HA → Prop} (t : Triple P f args h Q) (hq : ∀ r h', Q r h' → Q' r h') : Triple P f args h Q' :=
 ⟨t.1, fun F w vs hr ha => (t.2 F w vs hr ha).mono fun e w' ⟨r, x, h', F', he, q, rest⟩ => ⟨r, x, h', F', he, hq r h' q, rest⟩⟩
def argEnv : Nat → List AV → Env
 | _, [] => []
 | i, a :: t => (i, a) :: argEnv (i + 1) t
theorem get_argEnv : ∀ (args : List AV) (i k : Nat) (av : AV), get (argEnv i args) k = some av → i ≤ k ∧ args[k - i]? = some av
 | [], _, _, _, h => by simp [argEnv, get] at h
 | a :: t, i, k, av, h => by
   simp only [argEnv, get] at h
   by_cases hik : i = k
   ·subst hik
    have : Nat.beq i i = true := by simp
    rw [this] at h
    simpa using h
   ·rw [beq_no hik] at h
    obtain ⟨h1, h2⟩ := get_argEnv t (i + 1) k av h
    refine ⟨by omega, ?_⟩
    have : k - i = (k - (i + 1)) + 1 := by omega
    rw [this]
    simpa using h2
/-- What the results' slots hold. -/
def rets (env : Env) : List ResultVar → Option (List AV)
 | [] => some []
 | .tmp t :: r => match get env t, rets env r with
   | some a, some l => some (a :: l)
   | _, _ => none
 | _ :: _ => none
def retOf : List AV → AV
 | [a] => a
 | l => .tup l
theorem run_results {a : Act} {F : Nat → Prop} {w : World} (hs : ∀ k av, get env k = some av → Rep F w av (a.tmps.getD k undef)) : ∀ (rs : List ResultVar) (l : List AV), rets env rs = some l →
   ∃ xs : List Value, (rs.mapM fun (r : ResultVar) => (match r with | .tmp t => (pure (a.tmps.getD t undef) : Sem Value) | .cell b t => do loadVar t (← asAddr (a.tmps.getD b undef)))).run P w = .ok xs w ∧
     xs.length = l.length ∧ ∀ (i : Nat) av x, l[i]? = some av → xs[i]? = some x → Rep F w av x
 | [], l, h => by
   simp only [rets, Option.some.injEq] at h
   subst h
   exact ⟨[], by simp, rfl, fun i av x h => by simp at h⟩
 | .tmp t :: r, l, h => by
   simp only [rets] at h
   cases h1 : get env t with
   | none => rw [h1] at h; simp at h
   | some av0 =>
     cases h2 : rets env r with
     | none => rw [h1, h2] at h; simp at h
     | some l0 =>
       rw [h1, h2] at h
       simp only [Option.some.injEq] at h
       subst h
       obtain ⟨xs, hrun, hlen, hrep⟩ := run_results hs r l0 h2
       refine ⟨a.tmps.getD t undef :: xs, ?_, by simp [hlen], ?_⟩
       ·rw [List.mapM_cons]; simp only [Sem.run_bind, Sem.run_pure, Result.andThen_ok, hrun]
       ·intro i av x hi hx
        cases i with
        | zero => simp only [List.getElem?_cons_zero, Option.some.injEq] at hi hx; subst hi; subst hx; exact hs t av0 h1
        | succ i => simp only [List.getElem?_cons_succ] at hi hx; exact hrep i av x hi hx
 | .cell _ _ :: _, l, h => by simp [rets] at h
/-- What is to be shown where the function ends: the results, and what of all that is owned is handed on. -/
def Fin (fn : Func) (Q : AV → List HA → Prop) : Cont := fun env h => ∃ l k r, rets env fn.results.toList = some l ∧ Tk h k r ∧ Q (retOf l) k
theorem results_end {fn : Func} {B : Base} {vs0 : Nat} (hD : B.D = []) {C : Cont} {a' : Act} {w' : World} {R : Ending → World → Prop} (g : GoodM N B C a' w')
   (hk : ∀ F env h w2, C env h → Sat N F env h a' w2 → Ext B.F B.h B.w F h w2 → ∃ v, (results fn a'.tmps).run P w2 = .ok v w2 ∧ R (.returned v) w2) : LeavesInM Fence.wide 0 P fn a'.tmps R a'.defers .returning w' := by
 obtain ⟨F, env, h, ms, hd, hm, hb, hc, s, e⟩ := g
 rw [hD, List.append_nil] at hd
 rw [hd]
 have key : ∀ (ms : List Nat) (w' : World), MarksOk ms F h w' → (∀ D ∈ ms, B.w.heap.size ≤ D) → Sat N F env h a' w' → Ext B.F B.h B.w F h w' → LeavesInM Fence.wide 0 P fn a'.tmps R (ms.map mark) .returning w' := by
   intro ms
   induction ms with
   | nil => intro w' _ _ s e; obtain ⟨v, h1, h2⟩ := hk F env h w' hc s e; exact ⟨v, h1, h2⟩
   | cons D ms ih =>
     intro w' hm hb s e
     obtain ⟨h1, h2, h3⟩ := hm.2 D (by simp)
     have hlt : D < w'.heap.size := (Array.getElem?_eq_some_iff.1 h1).1
     have hother : ∀ b, b ≠ D → (w'.putObj D (.deferred none)).heap[b]? = w'.heap[b]? := fun b hb => World.putObj_heap_other hb
     have hF : ∀ b, F b → (w'.putObj D (.deferred none)).heap[b]? = w'.heap[b]? := fun b hb => hother b (fun e => h3 (e ▸ hb))
     have hO : ∀ b ∈ owns h, (w'.putObj D (.deferred none)).heap[b]? = w'.heap[b]? := fun b hb => hother b (fun e => h2 (e ▸ hb))
     have hsz : (w'.putObj D (.deferred none)).heap.size = w'.heap.size := by simp
     refine ⟨by simp, .inl ⟨D, _, rfl, run_takeDeferred h1, ih _ ?_ (fun E hE => hb E (by simp [hE])) ?_ ?_⟩⟩
     ·refine ⟨(List.nodup_cons.1 hm.1).2, fun E hE => ⟨(hother E (fun e => (List.nodup_cons.1 hm.1).1 (e ▸ hE))).trans (hm.2 E (by simp [hE])).1, (hm.2 E (by simp [hE])).2⟩⟩
     ·exact ⟨⟨fun x hx => (s.r.rep x hx).mono (fun _ h => h) hF (fun b hb => hO b (List.mem_flatMap.2 ⟨x, hx, hb⟩)), s.r.nd, fun b hb => by rw [hsz]; exact s.r.lt b hb, fun b hb => ⟨by rw [hsz]; exact (s.r.sep b hb).1, (s.r.sep b hb).2⟩⟩, s.size, fun k av hk => (s.env k av hk).mono (fun _ h => h) hF⟩
     ·refine ⟨e.os, e.output, e.tape, by rw [hsz]; exact e.size, fun b hb1 hn => (hother b (fun e1 => ?_)).trans (e.keep b hb1 hn), e.sub, e.mono, e.new⟩
      subst e1
      exact absurd (hb b (by simp)) (by omega)
 exact key ms w' hm hb s e
theorem triple_of {f : FuncId} {fn : Func} {c : Code} {args : List AV} {Q : AV → List HA → Prop} (hf : P.funcs[f]? = some fn) (hb : fn.body = some c) (hn : (fn.name == "runtime.NumGoroutine") = false) (hN : fn.ntmps = N) (ha : args.length ≤ N)
   (h1 : AWP P N c (argEnv 0 args) h (Fin fn Q) [] (Fin fn Q)) : Triple P f args h Q := by
 refine ⟨⟨fn, hf, hn, by simp [hb]⟩, fun F w vs hr hreps => ?_⟩
 refine (callsIn_wide (n := 0)).1 (callsIn_of_wp_marks hf hb trivial (wpIn_mono (h1 none F _ w (fun l hl => by cases hl) ?_) ?_) rfl)
 ·refine ⟨hr, ?_, ?_⟩
  ·have h5 : vs.size = args.length := hreps.1
   show (vs ++ Array.replicate (fn.ntmps - vs.size) undef).size = N
   rw [Array.size_append, Array.size_replicate, h5, hN]
   omega
  ·intro k av hk
   obtain ⟨_, h3⟩ := get_argEnv args 0 k av hk
   have hlt : k < vs.size := by
     rw [hreps.1]
     exact (List.getElem?_eq_some_iff.1 h3).1
   have : (vs ++ Array.replicate (fn.ntmps - vs.size) undef).getD k undef = vs[k] := by
     simp [Array.getD_eq_getD_getElem?, Array.getElem?_append, hlt]
   show Rep F w av ((vs ++ Array.replicate (fn.ntmps - vs.size) undef).getD k undef)
   rw [this]
   exact hreps.2 k av _ h3 (by simp [hlt])
 ·intro ex a' w' hp
  have key : GoodM N ⟨F, h, w, []⟩ (Fin fn Q) a' w' → LeavesInM Fence.wide 0 P fn a'.tmps (fun e w' => ∃ r x h'' F', e = .returned x ∧ Q r h'' ∧ Rep F' w' r x ∧ R F' h'' w' ∧ Ext F h w F' h'' w') a'.defers .returning w' := by
    intro hp
    refine results_end (vs0 := 0) rfl hp ?_
    show ∀ F' env' h3 w', Fin fn Q env' h3 → Sat N F' env' h3 a' w' → Ext F h w F' h3 w' → ∃ v, (results fn a'.tmps).run P w' = .ok v w' ∧ ∃ r x h'' F', Ending.returned v = .returned x ∧ Q r h'' ∧ Rep F' w' r x ∧ R F' h'' w' ∧ Ext F h w F' h'' w'
    rintro F' env' h3 w' ⟨l, h'', hrr, hl, htk, hq⟩ s' e3
    have e' := e3.subR htk
    obtain ⟨xs, hrun, hlen, hrep⟩ := run_results (P := P) (fun k av hk => s'.env k av hk) fn.results.toList l hl
    refine ⟨(if hsz : xs.length = 1 then xs[0]'(by omega) else .tuple xs.toArray), ?_, retOf l, _, h'', F', rfl, hq, ?_, s'.r.sub htk, e'⟩
    ·unfold results
     rw [← Array.toArray_toList (xs := fn.results), List.mapM_toArray]
     simp only [Sem.run_bind, Sem.run_map]
     erw [hrun]
     simp only [Result.andThen_ok, Sem.run_pure]
     by_cases hsz : xs.length = 1
     ·simp [hsz]
     ·simp [hsz]
    ·split
     ·rename_i hsz
      match l, hlen, hrep with
      | [av], hlen, hrep => exact hrep 0 av _ rfl (by simp)
      | [], hlen, _ => rw [hsz] at hlen; cases hlen
      | _ :: _ :: _, hlen, _ => rw [hsz, List.length_cons, List.length_cons] at hlen; omega
     ·rename_i hsz
      have hl2 : retOf l = .tup l := by
        match l, hlen with
        | [_], hlen => exact absurd hlen hsz
        | [], _ => rfl
        | _ :: _ :: _, _ => rfl
      rw [hl2]
      exact .tup l _ (by simp [hlen]) (fun j av x hj hx => hrep j av x hj (by simpa using hx))
  cases ex with
  | normal => exact key hp
  | ret => exact key hp
  | exit id => obtain ⟨Kx, hl, _⟩ := hp; simp [look] at hl
  | goto l => exact hp.elim
  | panic c => exact hp.elim
  | outgrown => exact hp.elim
/-! ### At a call -/
def evs (env : Env) : List Operand → Option (List AV)
 | [] => some []
 | x :: r => match ev env x, evs env r with
   | some a, some l => some (a :: l)
   | _, _ => none
theorem reps_evs {F : Nat → Prop} {a : Act} {w : World} (s : Sat N F env h a w) : ∀ (xs : List Operand) (l : List AV), evs env xs = some l → Reps F w l (xs.map a.eval).toArray
 | [], l, hl => by simp only [evs, Option.some.injEq] at hl; subst hl; exact ⟨rfl, fun i av x h => by simp at h⟩
 | x :: r, l, hl => by
   simp only [evs] at hl
   cases h1 : ev env x with
   | none => rw [h1] at hl; simp at hl
   | some a0 =>
     cases h2 : evs env r with
     | none => rw [h1, h2] at hl; simp at hl
     | some l0 =>
       rw [h1, h2] at hl
       simp only [Option.some.injEq] at hl
       subst hl
       obtain ⟨h3, h4⟩ := reps_evs s r l0 h2
       refine ⟨by simpa using h3, fun i av x hi hx => ?_⟩
       cases i with
       | zero => simp at hi hx; subst hi; subst hx; exact s.ev h1
       | succ i => simp at hi hx; exact h4 i av x hi (by simpa using hx)
theorem exec_call {o : Oper} {a : Act} {w : World} {fo : Operand} {xs : Array Operand} {ts : Array TypeId} {f : FuncId} {caps : Array Value} (hop : o.op = .call ⟨.value fo, xs, ts⟩) (hfo : a.eval fo = .func (.func f) #[] caps) (hb : HasBody P f) :
   (execOp a.eval o).run P w = .ok (.enter f (xs.map a.eval ++ caps)) w := by
 obtain ⟨fn, hf, hn, hbody⟩ := hb
 have hn' : ¬ fn.name = "runtime.NumGoroutine" := by simpa using hn
 have hb' : ¬ fn.body = none := fun h => by rw [h] at hbody; cases hbody
 simp [execOp, hop, resolve, Deferred.ofValue, hfo, invoke, callFunc, hf, hn', hb']
/-- A call of a function that is known, with what it captured; of what is owned it is handed hin. -/
theorem aCall {o : Oper} {d : Nat} {fo : Operand} {xs : Array Operand} {ts : Array TypeId} {f : FuncId} {caps : List AV} {l : List AV} {hin hfr : List HA} {Q : AV → List HA → Prop} (hop : o.op = .call ⟨.value fo, xs, ts⟩) (hd : o.dst = some d) (hN : d < N)
   (hfo : ev env fo = some (.fn (.func f) caps)) (hl : evs env xs.toList = some l) (ht : Tk h hin hfr) (t : Triple P f (l ++ caps) hin Q) (hk : ∀ r h', Q r h' → K ((d, r) :: env) (h' ++ hfr)) : AOp P N o env h K := by
 intro B F a w Qx s e hdef
 have hfv := s.ev hfo
 generalize hv : a.eval fo = v at hfv
 cases hfv with
 | fn _ _ cx hcl hcr =>
   unfold Oper.wp
   rw [exec_call hop hv t.1, Oper.upon_enter]
   have hp := ht.perm
   have hr1 := s.r.perm hp
   have hnd : (owns hin ++ owns hfr).Nodup := by rw [← owns_append]; exact hr1.nd
   have hrin : R F hin w := ⟨fun x hx => hr1.rep x (by simp [hx]), (List.nodup_append.1 hnd).1, fun b hb => hr1.lt b (by simp [owns_append, hb]), fun b hb => ⟨(hr1.sep b hb).1, fun hm => (hr1.sep b hb).2 (by simp [owns_append, hm])⟩⟩
   obtain ⟨hz1, hz2⟩ := reps_evs s xs.toList l hl
   refine (t.2 F w _ hrin ⟨?_, ?_⟩).mono ?_
   ·simpa [hcl] using hz1
   ·intro i av x hi hx
    have hsz : (xs.map a.eval).size = l.length := by simpa using hz1
    rcases Nat.lt_or_ge i l.length with hlt | hge
    ·rw [List.getElem?_append_left hlt] at hi
     rw [Array.getElem?_append_left (by rw [hsz]; exact hlt)] at hx
     exact hz2 i av x hi (by simpa using hx)
    ·rw [List.getElem?_append_right hge] at hi
     rw [Array.getElem?_append_right (by rw [hsz]; exact hge), hsz] at hx
     exact hcr _ av x hi hx
   ·rintro ex w' ⟨r, x, h', F', rfl, hq, hrep, hR', hE⟩
    simp only [hd]
    -- the frame
    have hfrb : ∀ b ∈ owns hfr, b ∉ owns hin := fun b hb hm => (List.nodup_append.1 hnd).2.2 b hm b hb rfl
    have hkeepfr : ∀ b ∈ owns hfr, w'.heap[b]? = w.heap[b]? := fun b hb => hE.keep b (hr1.lt b (by simp [owns_append, hb])) (hfrb b hb)
    have hset := hrin.settled hE
    have hR2 : R F' (h' ++ hfr) w' := by
      refine ⟨fun y hy => ?_, ?_, ?_, ?_⟩
      ·rcases List.mem_append.1 hy with hy | hy
       ·exact hR'.rep y hy
       ·exact (hr1.rep y (by simp [hy])).mono hE.mono hset (fun b hb => hkeepfr b (List.mem_flatMap.2 ⟨y, hy, hb⟩))
      ·rw [owns_append]
       refine List.nodup_append.2 ⟨hR'.nd, (List.nodup_append.1 hnd).2.1, ?_⟩
       rintro b hb c hc rfl
       rcases hE.sub b hb with h1 | h1
       ·exact hfrb b hc h1
       ·have := hr1.lt b (by simp [owns_append, hc]); omega
      ·intro b hb
       rw [owns_append] at hb
       rcases List.mem_append.1 hb with hb | hb
       ·exact hR'.lt b hb
       ·exact Nat.lt_of_lt_of_le (hr1.lt b (by simp [owns_append, hb])) hE.size
      ·intro b hb
       refine ⟨(hR'.sep b hb).1, fun hm => ?_⟩
       rw [owns_append] at hm
       rcases List.mem_append.1 hm with hm | hm
       ·exact (hR'.sep b hb).2 hm
       ·rcases hE.new b hb with h1 | h1 | h1
        ·exact (hr1.sep b h1).2 (by simp [owns_append, hm])
        ·exact hfrb b hm h1
        ·have := hr1.lt b (by simp [owns_append, hm]); omega
    have hE2 : Ext F h w F' (h' ++ hfr) w' := by
      refine Ext.permL hp.symm ⟨hE.os, hE.output, hE.tape, hE.size, fun b hb hn => hE.keep b hb (fun hm => hn (by simp [owns_append, hm])), ?_, hE.mono, ?_⟩
      ·intro b hb
       rw [owns_append] at hb ⊢
       rcases List.mem_append.1 hb with hb | hb
       ·rcases hE.sub b hb with h1 | h1
        ·exact .inl (List.mem_append_left _ h1)
        ·exact .inr h1
       ·exact .inl (List.mem_append_right _ hb)
      ·intro b hb
       rcases hE.new b hb with h1 | h1 | h1
       ·exact .inl h1
       ·exact .inr (.inl (by rw [owns_append]; exact List.mem_append_left _ h1))
       ·exact .inr (.inr h1)
    exact ⟨hdef, F', _, _, hk r h' hq, s.put hE2 hR2 hN hrep, e.trans hE2⟩
end A
end Go.Proofs.YtgdfppjapnpcgaaDoor
