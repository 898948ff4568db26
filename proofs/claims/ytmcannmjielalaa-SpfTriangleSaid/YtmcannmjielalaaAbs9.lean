/- Shorter steps for a walk that is printed: an operation and what follows in one; splits on a bool; lending. Over any program. -/
import Derived.Test.YtmcannmjielalaaAbs8
set_option linter.unusedVariables false
set_option linter.unusedSimpArgs false
namespace Go.Proofs.Ytmcannmjielalaa
namespace A
open Go.Proofs.YtmcannmjielalaaW.PrintLast (takeB anyB readyB)

variable {P : Program} {N : Nat} {env : Env} {h : List HA} {K : Cont} {X : List (Nat × Cont)} {Rt : Cont}

/-! ### In the text's order -/
theorem oP {ops : Array Oper} {o : Oper} {rest : List Oper} {d : Nat} {av : AV} (hg : o.guard = none) (hr : APure P N o env av) (hd : o.dst = some d) (hN : d < N) (hk : AOps P N ops rest ((d, av) :: env) h K X Rt) : AOps P N ops (o :: rest) env h K X Rt :=
  oCons hg (aPure hr hd hN hk)
theorem oR {ops : Array Oper} {o : Oper} {rest : List Oper} {d : Nat} {av : AV} (hg : o.guard = none) (hr : ARead P N o env h av) (hd : o.dst = some d) (hN : d < N) (hk : AOps P N ops rest ((d, av) :: env) h K X Rt) : AOps P N ops (o :: rest) env h K X Rt :=
  oCons hg (aRead hr hd hN hk)
theorem oA {ops : Array Oper} {o : Oper} {rest : List Oper} (hg : o.guard = none) (h1 : AOp P N o env h (fun env' h' => AOps P N ops rest env' h' K X Rt)) : AOps P N ops (o :: rest) env h K X Rt := oCons hg h1
theorem oQ {ops : Array Oper} {o : Oper} {rest : List Oper} (hg : o.guard = none) (h1 : AOpQ P N o env h (fun env' h' => AOps P N ops rest env' h' K X Rt)) : AOps P N ops (o :: rest) env h K X Rt := oCons hg h1.op

theorem oGT {ops : Array Oper} {o : Oper} {rest : List Oper} {j d : Nat} {want : Bool} {x : Value} (hg : o.guard = some (j, want)) (hj : (ops[j]?).bind (·.dst) = some d) (hx : get env d = some (.v x)) (hw : wants x want = true)
    (h1 : AOp P N o env h (fun env' h' => AOps P N ops rest env' h' K X Rt)) : AOps P N ops (o :: rest) env h K X Rt := by
  intro B k F a w hr s e hdef
  obtain ⟨h3, h4, h5⟩ := range_drop hr
  rw [h5, wpOpsIn_cons]
  unfold wpOpIn
  simp only [h3, yieldsIf_guard hg hj hx s, hw, if_true]
  refine oper_in (Oper.wp_mono ?_ (h1 B F a w _ s e hdef))
  intro a' w' ⟨hd, F', env', h', hk, s', e'⟩
  exact hk B (k + 1) F' a' w' h4 s' e' hd
theorem oGP {ops : Array Oper} {o : Oper} {rest : List Oper} {j dj d : Nat} {want : Bool} {x : Value} {av : AV} (hg : o.guard = some (j, want)) (hj : (ops[j]?).bind (·.dst) = some dj) (hx : get env dj = some (.v x)) (hw : wants x want = true)
    (hr : APure P N o env av) (hd : o.dst = some d) (hN : d < N) (hk : AOps P N ops rest ((d, av) :: env) h K X Rt) : AOps P N ops (o :: rest) env h K X Rt := oGT hg hj hx hw (aPure hr hd hN hk)
theorem oGR {ops : Array Oper} {o : Oper} {rest : List Oper} {j dj d : Nat} {want : Bool} {x : Value} {av : AV} (hg : o.guard = some (j, want)) (hj : (ops[j]?).bind (·.dst) = some dj) (hx : get env dj = some (.v x)) (hw : wants x want = true)
    (hr : ARead P N o env h av) (hd : o.dst = some d) (hN : d < N) (hk : AOps P N ops rest ((d, av) :: env) h K X Rt) : AOps P N ops (o :: rest) env h K X Rt := oGT hg hj hx hw (aRead hr hd hN hk)
theorem oGF {ops : Array Oper} {o : Oper} {rest : List Oper} {j d dj : Nat} {want : Bool} {x : Value} (hg : o.guard = some (j, want)) (hj : (ops[j]?).bind (·.dst) = some dj) (hx : get env dj = some (.v x)) (hw : wants x want = false)
    (hd : o.dst = some d) (hN : d < N) (hk : AOps P N ops rest ((d, .v undef) :: env) h K X Rt) : AOps P N ops (o :: rest) env h K X Rt := by
  intro B k F a w hr s e hdef
  obtain ⟨h3, h4, h5⟩ := range_drop hr
  rw [h5, wpOpsIn_cons]
  unfold wpOpIn
  simp only [h3, yieldsIf_guard hg hj hx s, hw, Bool.false_eq_true, if_false, hd]
  exact ⟨fun _ _ => trivial, hk B (k + 1) F (a.put (some d) undef) w h4 (s.put (.refl F h w) s.r hN (.v undef)) e hdef⟩
/-- A guarded operation without a slot (a store). -/
theorem oGF0 {ops : Array Oper} {o : Oper} {rest : List Oper} {j dj : Nat} {want : Bool} {x : Value} (hg : o.guard = some (j, want)) (hj : (ops[j]?).bind (·.dst) = some dj) (hx : get env dj = some (.v x)) (hw : wants x want = false)
    (hd : o.dst = none) (hk : AOps P N ops rest env h K X Rt) : AOps P N ops (o :: rest) env h K X Rt := by
  intro B k F a w hr s e hdef
  obtain ⟨h3, h4, h5⟩ := range_drop hr
  rw [h5, wpOpsIn_cons]
  unfold wpOpIn
  simp only [h3, yieldsIf_guard hg hj hx s, hw, Bool.false_eq_true, if_false, hd]
  exact ⟨fun _ _ => trivial, hk B (k + 1) F a w h4 s e hdef⟩

/-! ### What a bool is, once it is known -/
theorem Sat.know {F : Nat → Prop} {a : Act} {w : World} {d : Nat} {b c : Bool} (s : Sat N F env h a w) (hd : get env d = some (.bool b)) (hb : b = c) : Sat N F ((d, .bool c) :: env) h a w := by
  subst hb
  refine ⟨s.r, s.size, fun k av hk => ?_⟩
  by_cases hdk : d = k
  · subst hdk
    have : Nat.beq d d = true := by simp
    simp only [get, this, cond_true, Option.some.injEq] at hk
    subst hk
    exact s.env d _ hd
  · simp only [get, beq_no hdk, cond_false] at hk
    exact s.env k av hk
theorem oSplit {ops : Array Oper} {rest : List Oper} (d : Nat) {b : Bool} (hd : get env d = some (.bool b)) (ht : b = true → AOps P N ops rest ((d, .bool true) :: env) h K X Rt) (hf : b = false → AOps P N ops rest ((d, .bool false) :: env) h K X Rt) : AOps P N ops rest env h K X Rt := by
  intro B k F a w hr s e hdef
  cases hb : b with
  | true => exact ht hb B k F a w hr (s.know hd hb) e hdef
  | false => exact hf hb B k F a w hr (s.know hd hb) e hdef
theorem dSplit {ops : Array Oper} {ds : List Nat} {n : Nat} {l : Array Bool} (d : Nat) {b : Bool} (hd : get env d = some (.bool b)) (ht : b = true → ADraw P N ops ds n l ((d, .bool true) :: env) h K X Rt) (hf : b = false → ADraw P N ops ds n l ((d, .bool false) :: env) h K X Rt) : ADraw P N ops ds n l env h K X Rt := by
  intro B F a w s e hdef
  cases hb : b with
  | true => exact ht hb B F a w (s.know hd hb) e hdef
  | false => exact hf hb B F a w (s.know hd hb) e hdef
theorem Sat.also {F F0 : Nat → Prop} {E0 : Env} {h0 : List HA} {a : Act} {w w0 : World} {d : Nat} {b c : Bool} (s0 : Sat N F0 E0 h0 a w0) (s : Sat N F env h a w) (hd : get env d = some (.bool b)) (hb : b = c) : Sat N F0 ((d, .bool c) :: E0) h0 a w0 :=
  ⟨s0.r, s0.size, fun k av hk => by
    subst hb
    by_cases hkd : d = k
    · subst hkd
      have : Nat.beq d d = true := by simp
      simp only [get, this, cond_true, Option.some.injEq] at hk
      subst hk
      have h1 := s.env d _ hd
      generalize a.tmps.getD d undef = x at h1 ⊢
      cases h1
      exact .v _
    · simp only [get, beq_no hkd, cond_false] at hk
      exact s0.env k av hk⟩
theorem eSplit {ops : Array Oper} {ds : List Nat} {n : Nat} {l : Array Bool} {E0 : Env} {h0 : List HA} (d : Nat) {b : Bool} (hd : get env d = some (.bool b)) (ht : b = true → ADraw2 P N ops ds n l ((d, .bool true) :: E0) h0 ((d, .bool true) :: env) h K X Rt) (hf : b = false → ADraw2 P N ops ds n l ((d, .bool false) :: E0) h0 ((d, .bool false) :: env) h K X Rt) : ADraw2 P N ops ds n l E0 h0 env h K X Rt := by
  intro B F0 w0 F a w s0 s e hdef h1 h2 h3
  cases hb : b with
  | true => exact ht hb B F0 w0 F a w (s0.also s hd hb) (s.know hd hb) e hdef h1 h2 h3
  | false => exact hf hb B F0 w0 F a w (s0.also s hd hb) (s.know hd hb) e hdef h1 h2 h3
theorem aCondT {c : Operand} {x y : Code} (hc : ev env c = some (.bool true)) (h1 : AWP P N x env h K X Rt) : AWP P N (.cond c x y) env h K X Rt := aCond hc (fun _ => h1) (fun h => by cases h)
theorem aCondF {c : Operand} {x y : Code} (hc : ev env c = some (.bool false)) (h1 : AWP P N y env h K X Rt) : AWP P N (.cond c x y) env h K X Rt := aCond hc (fun h => by cases h) (fun _ => h1)

/-! The same, by the test that the bool came of. -/
theorem oSplitDec {ops : Array Oper} {rest : List Oper} (d : Nat) {p : Prop} [Decidable p] (hd : get env d = some (.bool (decide p))) (ht : p → AOps P N ops rest ((d, .bool true) :: env) h K X Rt) (hf : ¬ p → AOps P N ops rest ((d, .bool false) :: env) h K X Rt) : AOps P N ops rest env h K X Rt :=
  oSplit d hd (fun e => ht (of_decide_eq_true e)) (fun e => hf (of_decide_eq_false e))
theorem oSplitEq {ops : Array Oper} {rest : List Oper} (d : Nat) {a b : Int} (hd : get env d = some (.bool (a == b))) (ht : a = b → AOps P N ops rest ((d, .bool true) :: env) h K X Rt) (hf : a ≠ b → AOps P N ops rest ((d, .bool false) :: env) h K X Rt) : AOps P N ops rest env h K X Rt :=
  oSplit d hd (fun e => ht (by simpa using e)) (fun e => hf (by simpa using e))
theorem oSplitNe {ops : Array Oper} {rest : List Oper} (d : Nat) {a b : Int} (hd : get env d = some (.bool (a != b))) (ht : a ≠ b → AOps P N ops rest ((d, .bool true) :: env) h K X Rt) (hf : a = b → AOps P N ops rest ((d, .bool false) :: env) h K X Rt) : AOps P N ops rest env h K X Rt :=
  oSplit d hd (fun e => ht (by simpa using e)) (fun e => hf (by simpa using e))
theorem oSplitNot {ops : Array Oper} {rest : List Oper} (d : Nat) {b : Bool} (hd : get env d = some (.bool (!b))) (ht : b = false → AOps P N ops rest ((d, .bool true) :: env) h K X Rt) (hf : b = true → AOps P N ops rest ((d, .bool false) :: env) h K X Rt) : AOps P N ops rest env h K X Rt :=
  oSplit d hd (fun e => ht (by simpa using e)) (fun e => hf (by simpa using e))
theorem dSplitDec {ops : Array Oper} {ds : List Nat} {n : Nat} {l : Array Bool} (d : Nat) {p : Prop} [Decidable p] (hd : get env d = some (.bool (decide p))) (ht : p → ADraw P N ops ds n l ((d, .bool true) :: env) h K X Rt) (hf : ¬ p → ADraw P N ops ds n l ((d, .bool false) :: env) h K X Rt) : ADraw P N ops ds n l env h K X Rt :=
  dSplit d hd (fun e => ht (of_decide_eq_true e)) (fun e => hf (of_decide_eq_false e))
theorem dSplitEq {ops : Array Oper} {ds : List Nat} {n : Nat} {l : Array Bool} (d : Nat) {a b : Int} (hd : get env d = some (.bool (a == b))) (ht : a = b → ADraw P N ops ds n l ((d, .bool true) :: env) h K X Rt) (hf : a ≠ b → ADraw P N ops ds n l ((d, .bool false) :: env) h K X Rt) : ADraw P N ops ds n l env h K X Rt :=
  dSplit d hd (fun e => ht (by simpa using e)) (fun e => hf (by simpa using e))
theorem dSplitNe {ops : Array Oper} {ds : List Nat} {n : Nat} {l : Array Bool} (d : Nat) {a b : Int} (hd : get env d = some (.bool (a != b))) (ht : a ≠ b → ADraw P N ops ds n l ((d, .bool true) :: env) h K X Rt) (hf : a = b → ADraw P N ops ds n l ((d, .bool false) :: env) h K X Rt) : ADraw P N ops ds n l env h K X Rt :=
  dSplit d hd (fun e => ht (by simpa using e)) (fun e => hf (by simpa using e))
theorem dSplitNot {ops : Array Oper} {ds : List Nat} {n : Nat} {l : Array Bool} (d : Nat) {b : Bool} (hd : get env d = some (.bool (!b))) (ht : b = false → ADraw P N ops ds n l ((d, .bool true) :: env) h K X Rt) (hf : b = true → ADraw P N ops ds n l ((d, .bool false) :: env) h K X Rt) : ADraw P N ops ds n l env h K X Rt :=
  dSplit d hd (fun e => ht (by simpa using e)) (fun e => hf (by simpa using e))
theorem eSplitDec {ops : Array Oper} {ds : List Nat} {n : Nat} {l : Array Bool} {E0 : Env} {h0 : List HA} (d : Nat) {p : Prop} [Decidable p] (hd : get env d = some (.bool (decide p))) (ht : p → ADraw2 P N ops ds n l ((d, .bool true) :: E0) h0 ((d, .bool true) :: env) h K X Rt) (hf : ¬ p → ADraw2 P N ops ds n l ((d, .bool false) :: E0) h0 ((d, .bool false) :: env) h K X Rt) : ADraw2 P N ops ds n l E0 h0 env h K X Rt :=
  eSplit d hd (fun e => ht (of_decide_eq_true e)) (fun e => hf (of_decide_eq_false e))
theorem eSplitEq {ops : Array Oper} {ds : List Nat} {n : Nat} {l : Array Bool} {E0 : Env} {h0 : List HA} (d : Nat) {a b : Int} (hd : get env d = some (.bool (a == b))) (ht : a = b → ADraw2 P N ops ds n l ((d, .bool true) :: E0) h0 ((d, .bool true) :: env) h K X Rt) (hf : a ≠ b → ADraw2 P N ops ds n l ((d, .bool false) :: E0) h0 ((d, .bool false) :: env) h K X Rt) : ADraw2 P N ops ds n l E0 h0 env h K X Rt :=
  eSplit d hd (fun e => ht (by simpa using e)) (fun e => hf (by simpa using e))
theorem eSplitNe {ops : Array Oper} {ds : List Nat} {n : Nat} {l : Array Bool} {E0 : Env} {h0 : List HA} (d : Nat) {a b : Int} (hd : get env d = some (.bool (a != b))) (ht : a ≠ b → ADraw2 P N ops ds n l ((d, .bool true) :: E0) h0 ((d, .bool true) :: env) h K X Rt) (hf : a = b → ADraw2 P N ops ds n l ((d, .bool false) :: E0) h0 ((d, .bool false) :: env) h K X Rt) : ADraw2 P N ops ds n l E0 h0 env h K X Rt :=
  eSplit d hd (fun e => ht (by simpa using e)) (fun e => hf (by simpa using e))
theorem eSplitNot {ops : Array Oper} {ds : List Nat} {n : Nat} {l : Array Bool} {E0 : Env} {h0 : List HA} (d : Nat) {b : Bool} (hd : get env d = some (.bool (!b))) (ht : b = false → ADraw2 P N ops ds n l ((d, .bool true) :: E0) h0 ((d, .bool true) :: env) h K X Rt) (hf : b = true → ADraw2 P N ops ds n l ((d, .bool false) :: E0) h0 ((d, .bool false) :: env) h K X Rt) : ADraw2 P N ops ds n l E0 h0 env h K X Rt :=
  eSplit d hd (fun e => ht (by simpa using e)) (fun e => hf (by simpa using e))
theorem aCondDec {c : Operand} {x y : Code} {p : Prop} [Decidable p] (hc : ev env c = some (.bool (decide p))) (ht : p → AWP P N x env h K X Rt) (hf : ¬ p → AWP P N y env h K X Rt) : AWP P N (.cond c x y) env h K X Rt :=
  aCond hc (fun e => ht (of_decide_eq_true e)) (fun e => hf (of_decide_eq_false e))
theorem aCondEq {c : Operand} {x y : Code} {a b : Int} (hc : ev env c = some (.bool (a == b))) (ht : a = b → AWP P N x env h K X Rt) (hf : a ≠ b → AWP P N y env h K X Rt) : AWP P N (.cond c x y) env h K X Rt :=
  aCond hc (fun e => ht (by simpa using e)) (fun e => hf (by simpa using e))
theorem aCondNe {c : Operand} {x y : Code} {a b : Int} (hc : ev env c = some (.bool (a != b))) (ht : a ≠ b → AWP P N x env h K X Rt) (hf : a = b → AWP P N y env h K X Rt) : AWP P N (.cond c x y) env h K X Rt :=
  aCond hc (fun e => ht (by simpa using e)) (fun e => hf (by simpa using e))
theorem aCondNot {c : Operand} {x y : Code} {b : Bool} (hc : ev env c = some (.bool (!b))) (ht : b = false → AWP P N x env h K X Rt) (hf : b = true → AWP P N y env h K X Rt) : AWP P N (.cond c x y) env h K X Rt :=
  aCond hc (fun e => ht (by simpa using e)) (fun e => hf (by simpa using e))

theorem pPick {o : Oper} {c x y : Operand} {b : Bool} {av : AV} (ho : o.op = .pick c x y) (hc : ev env c = some (.bool b)) (hx : ev env (cond b x y) = some av) : APure P N o env av := by
  intro F h a w s
  have hr := s.ev hc
  generalize hv : a.eval c = v at hr
  cases hr
  refine ⟨_, s.ev hx, fun w' => ?_⟩
  cases b <;> simp [execOp, ho, hv, asBool]

/-! ### Lending what is owned to a call that only reads -/
inductive Lent (h : List HA) : AV → AV → Prop
  | same (av : AV) : Lent h av av
  | sl {g : Option Nat} {n c e sz : Nat} {es : List (List AV)} (hm : HA.sl g c e sz es ∈ h) (hn : n = es.length) : Lent h (.v (slV g n c)) (.sl sz es)
  | sp {b : Nat} {cs : List AV} (hm : HA.box b cs ∈ h) : Lent h (.v (.pointer (some ⟨b, 0, none⟩))) (.sp cs)
  | fn {f : Fn} {cs ds : List AV} (hl : cs.length = ds.length) (hp : ∀ (i : Nat) a b, cs[i]? = some a → ds[i]? = some b → Lent h a b) : Lent h (.fn f cs) (.fn f ds)
inductive Lents (h : List HA) : List AV → List AV → Prop
  | nil : Lents h [] []
  | cons {a b : AV} {l m : List AV} : Lent h a b → Lents h l m → Lents h (a :: l) (b :: m)

theorem Lent.rep {F : Nat → Prop} {w : World} {a b : AV} {x : Value} (l : Lent h a b) (r : R F h w) (hx : Rep F w a x) : Rep (fun k => F k ∨ k ∈ owns h) w b x := by
  have hF : ∀ b, F b → (F b ∨ b ∈ owns h) := fun b h => .inl h
  induction l generalizing x with
  | same => exact hx.mono hF (fun _ _ => rfl)
  | fn hl hp ih =>
    cases hx with
    | fn _ _ xs hxl hR =>
      refine .fn _ _ xs (by rw [hxl, hl]) (fun j av y hj hy => ?_)
      have hlt : j < _ := (Array.getElem?_eq_some_iff.1 hy).1
      rw [hxl] at hlt
      exact ih j _ av (List.getElem?_eq_getElem hlt) hj (hR j _ y (List.getElem?_eq_getElem hlt) hy)
  | sl hm hn =>
    subst hn
    cases hx
    exact own_settled (r.rep _ hm) hF (fun b hb => .inr (List.mem_flatMap.2 ⟨_, hm, by subst hb; simp [HA.own]⟩))
  | sp hm =>
    cases hx
    obtain ⟨arr, ty, h1, h2, h3, h4⟩ := r.rep _ hm
    have hget : ∀ j, j < arr.size → arr[j]? = some (arr.getD j undef) := fun j hj => by simp [hj]
    refine .sp _ _ 0 (fun j => arr.getD j undef) (.inr (List.mem_flatMap.2 ⟨_, hm, by simp [HA.own]⟩)) (fun j hj => ?_) (fun j hj => h3 _ (Array.mem_of_getElem? (hget j (by omega)))) (fun j av hj => (h4 j av _ hj (hget j (by rw [h2]; exact (List.getElem?_eq_some_iff.1 hj).1))).mono hF (fun _ _ => rfl))
    rw [Nat.zero_add]
    simp only [World.cell?, h1, Option.isSome_none, Bool.false_eq_true, if_false]
    exact hget j (by omega)

theorem Lents.len {l m : List AV} (k : Lents h l m) : l.length = m.length := by
  induction k with
  | nil => rfl
  | cons _ _ ih => simp [ih]
theorem Lents.rep {F : Nat → Prop} {w : World} {l m : List AV} {vs : Array Value} (k : Lents h l m) (r : R F h w) (hx : Reps F w l vs) : Reps (fun k => F k ∨ k ∈ owns h) w m vs := by
  refine ⟨by rw [hx.1, k.len], fun i av x hi hv => ?_⟩
  have : ∀ (l m : List AV), Lents h l m → ∀ (i : Nat) av, m[i]? = some av → ∃ aw, l[i]? = some aw ∧ Lent h aw av := by
    intro l m k
    induction k with
    | nil => intro i av h; simp at h
    | cons hl _ ih =>
      intro i av h
      cases i with
      | zero => simp at h; subst h; exact ⟨_, rfl, hl⟩
      | succ i => simpa using ih i av (by simpa using h)
  obtain ⟨aw, h1, h2⟩ := this l m k i av hi
  exact h2.rep r (hx.2 i aw x h1 hv)

/-- No memory that is settled stands behind it. -/
inductive Flat : AV → Prop
  | v (x : Value) : Flat (.v x)
  | agg {cs : List AV} : (∀ c ∈ cs, Flat c) → Flat (.agg cs)
  | tup {cs : List AV} : (∀ c ∈ cs, Flat c) → Flat (.tup cs)
theorem Flat.rep {F F' : Nat → Prop} {w w' : World} {av : AV} {x : Value} (f : Flat av) (r : Rep F w av x) : Rep F' w' av x := by
  induction f generalizing x with
  | v y => cases r; exact .v _
  | agg _ ih => cases r with
    | agg _ xs hl h1 hR => exact .agg _ xs hl h1 (fun j av y hj hy => ih _ (List.mem_of_getElem? hj) (hR j av y hj hy))
  | tup _ ih => cases r with
    | tup _ xs hl hR => exact .tup _ xs hl (fun j av y hj hy => ih _ (List.mem_of_getElem? hj) (hR j av y hj hy))

/-- What a call makes is flat: then what was lent to it comes back. -/
def FlatHA : HA → Prop
  | .box _ cs => ∀ c ∈ cs, Flat c
  | .sl _ _ _ _ es => ∀ y ∈ es, ∀ c ∈ y, Flat c
  | .map _ kvs => ∀ kv ∈ kvs, Flat kv.2
  | .loop _ _ _ => False
  | .obj _ _ => True
  | .mapIt _ _ _ _ => False
  | .mapK _ kvs => ∀ kv ∈ kvs, Flat kv.2
  | .mapKIt _ _ _ _ => False
theorem FlatHA.rep {F F' : Nat → Prop} {w : World} {x : HA} (f : FlatHA x) (r : HARep F w x) : HARep F' w x := by
  match x, f, r with
  | .box b cs, f, ⟨arr, ty, h1, h2, h3, h4⟩ => exact ⟨arr, ty, h1, h2, h3, fun j av y hj hy => (f av (List.mem_of_getElem? hj)).rep (h4 j av y hj hy)⟩
  | .sl g c e sz es, f, ⟨xs, h1, h2, h3, h4⟩ => exact ⟨xs, h1, h2, h3, fun i j y av x hi hj hx => (f y (List.mem_of_getElem? hi) av (List.mem_of_getElem? hj)).rep (h4 i j y av x hi hj hx)⟩
  | .map b kvs, f, ⟨ents, clock, h1, h2, h3, h4⟩ => exact ⟨ents, clock, h1, h2, fun i kv e a b => ⟨(h3 i kv e a b).1, (f kv (List.mem_of_getElem? a)).rep (h3 i kv e a b).2.1, (h3 i kv e a b).2.2⟩, h4⟩
  | .mapK b kvs, f, ⟨ents, clock, h1, h2, h3, h4⟩ => exact ⟨ents, clock, h1, h2, fun i kv e a b => ⟨(h3 i kv e a b).1, (f kv (List.mem_of_getElem? a)).rep (h3 i kv e a b).2.1, (h3 i kv e a b).2.2⟩, h4⟩
  | .obj b o, f, h1 => exact h1

/-- A call that is handed nothing of what is owned, but may read it; what it makes is flat. -/
theorem qCallL {o : Oper} {d : Nat} {fo : Operand} {xs : Array Operand} {ts : Array TypeId} {f : FuncId} {caps caps' l l' : List AV} {Q : AV → List HA → Prop} (hop : o.op = .call ⟨.value fo, xs, ts⟩) (hd : o.dst = some d) (hN : d < N)
    (hfo : ev env fo = some (.fn (.func f) caps)) (hl : evs env xs.toList = some l) (hlent : Lents h (l ++ caps) l') (t : Triple P f l' [] Q) (hflat : ∀ r h', Q r h' → Flat r ∧ ∀ x ∈ h', FlatHA x) (hk : ∀ r h', Q r h' → K ((d, r) :: env) (h' ++ h)) : AOpQ P N o env h K := by
  intro B F a w Qx s e hdef
  have hfv := s.ev hfo
  generalize hv : a.eval fo = v at hfv
  cases hfv with
  | fn _ _ cx hcl hcr =>
    unfold Oper.wp
    rw [exec_call hop hv t.1, Oper.upon_enter]
    obtain ⟨hz1, hz2⟩ := reps_evs s xs.toList l hl
    have hreps : Reps F w (l ++ caps) (xs.map a.eval ++ cx) := by
      refine ⟨by simpa [hcl] using hz1, fun i av x hi hx => ?_⟩
      have hsz : (xs.map a.eval).size = l.length := by simpa using hz1
      rcases Nat.lt_or_ge i l.length with hlt | hge
      · rw [List.getElem?_append_left hlt] at hi
        rw [Array.getElem?_append_left (by rw [hsz]; exact hlt)] at hx
        exact hz2 i av x hi (by simpa using hx)
      · rw [List.getElem?_append_right hge] at hi
        rw [Array.getElem?_append_right (by rw [hsz]; exact hge), hsz] at hx
        exact hcr _ av x hi hx
    have hr0 : R (fun k => F k ∨ k ∈ owns h) [] w := ⟨fun x hx => by simp at hx, by simp, fun b hb => by simp at hb, fun b hb => ⟨hb.elim (fun h => (s.r.sep b h).1) (fun h => s.r.lt b h), by simp⟩⟩
    refine (t.2 _ w _ hr0 (hlent.rep s.r hreps)).mono ?_
    rintro ex w' ⟨r, x, h', F', rfl, hq, hrep, hR', hE⟩
    simp only [hd]
    obtain ⟨hf1, hf2⟩ := hflat r h' hq
    have hkeep : ∀ b, b < w.heap.size → w'.heap[b]? = w.heap[b]? := fun b hb => hE.keep b hb (by simp)
    have hnew : ∀ b ∈ owns h', w.heap.size ≤ b := fun b hb => (hE.sub b hb).elim (fun h => by simp at h) id
    have hR2 : R F (h' ++ h) w' := by
      refine ⟨fun y hy => ?_, ?_, ?_, ?_⟩
      · rcases List.mem_append.1 hy with hy | hy
        · exact (hf2 y hy).rep (hR'.rep y hy)
        · exact (s.r.rep y hy).mono (fun _ h => h) (fun b hb => hkeep b (s.r.sep b hb).1) (fun b hb => hkeep b (s.r.lt b (List.mem_flatMap.2 ⟨y, hy, hb⟩)))
      · rw [owns_append]
        refine List.nodup_append.2 ⟨hR'.nd, s.r.nd, ?_⟩
        rintro b hb c hc rfl
        have := hnew b hb
        have := s.r.lt b hc
        omega
      · intro b hb
        rw [owns_append] at hb
        rcases List.mem_append.1 hb with hb | hb
        · exact hR'.lt b hb
        · exact Nat.lt_of_lt_of_le (s.r.lt b hb) hE.size
      · intro b hb
        have h1 := s.r.sep b hb
        refine ⟨Nat.lt_of_lt_of_le h1.1 hE.size, fun hm => ?_⟩
        rw [owns_append] at hm
        rcases List.mem_append.1 hm with hm | hm
        · have := hnew b hm; omega
        · exact h1.2 hm
    have hE2 : Ext F h w F (h' ++ h) w' := ⟨hE.os, hE.output, hE.tape, hE.size, fun b hb _ => hkeep b hb, fun b hb => by
      rw [owns_append] at hb
      rcases List.mem_append.1 hb with hb | hb
      · exact .inr (hnew b hb)
      · exact .inl hb, fun _ h => h, fun _ h => .inl h, hE.dr⟩
    exact ⟨hdef, F, _, _, hk r h' hq, s.put hE2 hR2 hN (hf1.rep hrep), e.trans hE2, fun b hb => hkeep b (hb.elim (fun h => (s.r.sep b h).1) (fun h => s.r.lt b h)), fun _ h => h, fun b hb => .inl (by rw [owns_append]; exact List.mem_append_right _ hb)⟩

/-- The same, where the result is one value of Go's own (a number, a bool). -/
theorem qCallV {o : Oper} {d : Nat} {fo : Operand} {xs : Array Operand} {ts : Array TypeId} {f : FuncId} {caps l l' : List AV} {v : Value} (hop : o.op = .call ⟨.value fo, xs, ts⟩) (hd : o.dst = some d) (hN : d < N)
    (hfo : ev env fo = some (.fn (.func f) caps)) (hl : evs env xs.toList = some l) (hlent : Lents h (l ++ caps) l') (t : Triple P f l' [] (fun r h' => r = .v v ∧ h' = [])) (hk : K ((d, .v v) :: env) h) : AOpQ P N o env h K :=
  qCallL (caps' := []) hop hd hN hfo hl hlent t (fun r h' ⟨hr, hh⟩ => by subst hr; subst hh; exact ⟨.v _, fun x hx => by simp at hx⟩) (fun r h' ⟨hr, hh⟩ => by subst hr; subst hh; exact hk)

/-- A loop: at each round's head a state of the family G at a t that meets I; each round lowers m. -/
theorem aLoopI {α : Type} {c : Code} (I : α → Prop) (G : α → Env × List HA) (m : α → Nat) (t0 : α) (i0 : I t0) (h0 : Weak N env h (G t0).1 (G t0).2)
    (h1 : ∀ t, I t → AWP P N c (G t).1 (G t).2 (fun env' h' => ∃ t', I t' ∧ m t' < m t ∧ Weak N env' h' (G t').1 (G t').2) X Rt) : AWP P N (.loop c) env h K X Rt :=
  aLoop (α := { t : α // I t }) (fun t => G t.1) (fun t => m t.1) ⟨t0, i0⟩ h0 (fun t => aMono (h1 t.1 t.2) (fun env' h' ⟨t', hi, hm, hw⟩ => ⟨⟨t', hi⟩, hm, hw⟩) (fun _ _ h => h))
theorem aCutI {α : Type} {x y : Code} (I : α → Prop) (G : α → Env × List HA) (h1 : AWP P N x env h (fun env' h' => ∃ t, I t ∧ Weak N env' h' (G t).1 (G t).2) X Rt)
    (h2 : ∀ t, I t → AWP P N y (G t).1 (G t).2 K X Rt) : AWP P N (.seq x y) env h K X Rt :=
  aCut (α := { t : α // I t }) (fun t => G t.1) (aMono h1 (fun _ _ ⟨t, hi, hw⟩ => ⟨⟨t, hi⟩, hw⟩) (fun _ _ h => h)) (fun t => h2 t.1 t.2)

theorem gInt {k : Nat} {a b : Int} (hg : get env k = some (.int a)) (hab : a = b) : get env k = some (.int b) := hab ▸ hg
theorem gAv {k : Nat} {a b : AV} (hg : get env k = some a) (hab : a = b) : get env k = some b := hab ▸ hg
theorem gLen {k : Nat} {g : Option Nat} {n n' c : Nat} (hg : get env k = some (.v (slV g n c))) (hn : n = n') : get env k = some (.v (slV g n' c)) := hn ▸ hg

theorem lent_fn1 {f : Fn} {a b : AV} (l : Lent h a b) : Lent h (.fn f [a]) (.fn f [b]) := .fn rfl (fun i x y hx hy => by
  cases i with
  | zero => simp at hx hy; subst hx; subst hy; exact l
  | succ i => simp at hx)

theorem lents_refl : ∀ (l : List AV), Lents h l l
  | [] => .nil
  | a :: l => .cons (.same a) (lents_refl l)

end A
end Go.Proofs.Ytmcannmjielalaa
