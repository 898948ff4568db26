/- Calls: a function's contract, its proof from its body, its use at a call. Over any program. -/
import Derived.Test.YtmcannmjielalaaAbs2
set_option linter.unusedVariables false
set_option linter.unusedSimpArgs false
namespace Go.Proofs.Ytmcannmjielalaa
namespace A

variable {P : Program} {N : Nat} {env : Env} {h : List HA} {K : Cont} {X : List (Nat × Cont)} {Rt : Cont}

/-! ### Taking one assertion out of those that are known -/
inductive Spl : List HA → HA → List HA → Prop
  | hd {x : HA} {t : List HA} : Spl (x :: t) x t
  | tl {x y : HA} {t t' : List HA} : Spl t y t' → Spl (x :: t) y (x :: t')

theorem Spl.perm {h h' : List HA} {x : HA} (s : Spl h x h') : h.Perm (x :: h') := by
  induction s with
  | hd => exact .refl _
  | tl _ ih => exact (ih.cons _).trans (List.Perm.swap _ _ _)

theorem owns_perm {h k : List HA} (p : h.Perm k) : (owns h).Perm (owns k) := p.flatMap_right _

theorem R.perm {F : Nat → Prop} {h k : List HA} {w : World} (p : h.Perm k) (r : R F h w) : R F k w where
  rep := fun x hx => r.rep x (p.mem_iff.2 hx)
  nd := (owns_perm p).nodup_iff.1 r.nd
  lt := fun b hb => r.lt b ((owns_perm p).mem_iff.2 hb)
  sep := fun b hb => ⟨(r.sep b hb).1, fun hm => (r.sep b hb).2 ((owns_perm p).mem_iff.2 hm)⟩

theorem Ext.permL {F : Nat → Prop} {h k : List HA} {w : World} {F' : Nat → Prop} {h' : List HA} {w' : World} (p : h.Perm k) (e : Ext F h w F' h' w') : Ext F k w F' h' w' :=
  ⟨e.os, e.output, e.tape, e.size, fun b hb hn => e.keep b hb (fun hm => hn ((owns_perm p).mem_iff.1 hm)), fun b hb => (e.sub b hb).imp (owns_perm p).mem_iff.1 id, e.mono, fun b hb => (e.new b hb).imp id (Or.imp (owns_perm p).mem_iff.1 id), e.dr⟩
theorem Ext.permR {F : Nat → Prop} {h : List HA} {w : World} {F' : Nat → Prop} {h' k' : List HA} {w' : World} (p : h'.Perm k') (e : Ext F h w F' h' w') : Ext F h w F' k' w' :=
  ⟨e.os, e.output, e.tape, e.size, e.keep, fun b hb => e.sub b ((owns_perm p).mem_iff.2 hb), e.mono, e.new, e.dr⟩

/-- Of h the assertions t, and the others. -/
inductive Tk : List HA → List HA → List HA → Prop
  | nil {h : List HA} : Tk h [] h
  | cons {h h1 r : List HA} {x : HA} {t : List HA} : Spl h x h1 → Tk h1 t r → Tk h (x :: t) r

theorem Tk.perm {h t r : List HA} (k : Tk h t r) : h.Perm (t ++ r) := by
  induction k with
  | nil => exact .refl _
  | cons s _ ih => exact s.perm.trans (ih.cons _)

theorem R.sub {F : Nat → Prop} {w : World} {t r : List HA} (k : Tk h t r) (hr : R F h w) : R F t w := by
  have hr1 := hr.perm k.perm
  refine ⟨fun x hx => hr1.rep x (List.mem_append_left _ hx), ?_, fun b hb => hr1.lt b (by rw [owns_append]; exact List.mem_append_left _ hb), fun b hb => ⟨(hr1.sep b hb).1, fun hm => (hr1.sep b hb).2 (by rw [owns_append]; exact List.mem_append_left _ hm)⟩⟩
  have := hr1.nd
  rw [owns_append] at this
  exact (List.nodup_append.1 this).1

theorem Ext.subR {F : Nat → Prop} {w : World} {F' : Nat → Prop} {h' t r : List HA} {w' : World} (k : Tk h' t r) (e : Ext F h w F' h' w') : Ext F h w F' t w' :=
  ⟨e.os, e.output, e.tape, e.size, e.keep, fun b hb => e.sub b ((owns_perm k.perm).mem_iff.2 (by rw [owns_append]; exact List.mem_append_left _ hb)), e.mono, e.new, e.dr⟩

/-! ### Contracts -/
def Reps (F : Nat → Prop) (w : World) (args : List AV) (vs : Array Value) : Prop := vs.size = args.length ∧ ∀ (i : Nat) av x, args[i]? = some av → vs[i]? = some x → Rep F w av x

def HasBody (P : Program) (f : FuncId) : Prop := ∃ fn, P.funcs[f]? = some fn ∧ (fn.name == "runtime.NumGoroutine") = false ∧ fn.body.isNone = false

/-- Called with these arguments, and owning what h says, it returns, and what Q says holds of the result and of what is owned then. -/
def Triple (P : Program) (f : FuncId) (args : List AV) (h : List HA) (Q : AV → List HA → Prop) : Prop :=
  HasBody P f ∧ ∀ F w vs, R F h w → Reps F w args vs →
    Calls P f vs w fun e w' => ∃ r x h' F', e = .returned x ∧ Q r h' ∧ Rep F' w' r x ∧ R F' h' w' ∧ Ext F h w F' h' w'

theorem Triple.mono {f : FuncId} {args : List AV} {Q Q' : AV → List HA → Prop} (t : Triple P f args h Q) (hq : ∀ r h', Q r h' → Q' r h') : Triple P f args h Q' :=
  ⟨t.1, fun F w vs hr ha => (t.2 F w vs hr ha).mono fun e w' ⟨r, x, h', F', he, q, rest⟩ => ⟨r, x, h', F', he, hq r h' q, rest⟩⟩

def argEnv : Nat → List AV → Env
  | _, [] => []
  | i, a :: t => (i, a) :: argEnv (i + 1) t

theorem get_argEnv : ∀ (args : List AV) (i k : Nat) (av : AV), get (argEnv i args) k = some av → i ≤ k ∧ args[k - i]? = some av
  | [], _, _, _, h => by simp [argEnv, get] at h
  | a :: t, i, k, av, h => by
    simp only [argEnv, get] at h
    by_cases hik : i = k
    · subst hik
      have : Nat.beq i i = true := by simp
      rw [this] at h
      simpa using h
    · rw [beq_no hik] at h
      obtain ⟨h1, h2⟩ := get_argEnv t (i + 1) k av h
      refine ⟨by omega, ?_⟩
      have : k - i = (k - (i + 1)) + 1 := by omega
      rw [this]
      simpa using h2

/-- What the results' slots hold. -/
def rets (env : Env) : List ResultVar → Option (List AV)
  | [] => some []
  | .tmp t :: r => match get env t, rets env r with
    | some a, some l => some (a :: l)
    | _, _ => none
  | _ :: _ => none
def retOf : List AV → AV
  | [a] => a
  | l => .tup l

theorem run_results {a : Act} {F : Nat → Prop} {w : World} (hs : ∀ k av, get env k = some av → Rep F w av (a.tmps.getD k undef)) : ∀ (rs : List ResultVar) (l : List AV), rets env rs = some l →
    ∃ xs : List Value, (rs.mapM fun (r : ResultVar) => (match r with | .tmp t => (pure (a.tmps.getD t undef) : Sem Value) | .cell b t => do loadVar t (← asAddr (a.tmps.getD b undef)))).run P w = .ok xs w ∧
      xs.length = l.length ∧ ∀ (i : Nat) av x, l[i]? = some av → xs[i]? = some x → Rep F w av x
  | [], l, h => by
    simp only [rets, Option.some.injEq] at h
    subst h
    exact ⟨[], by simp, rfl, fun i av x h => by simp at h⟩
  | .tmp t :: r, l, h => by
    simp only [rets] at h
    cases h1 : get env t with
    | none => rw [h1] at h; simp at h
    | some av0 =>
      cases h2 : rets env r with
      | none => rw [h1, h2] at h; simp at h
      | some l0 =>
        rw [h1, h2] at h
        simp only [Option.some.injEq] at h
        subst h
        obtain ⟨xs, hrun, hlen, hrep⟩ := run_results hs r l0 h2
        refine ⟨a.tmps.getD t undef :: xs, ?_, by simp [hlen], ?_⟩
        · rw [List.mapM_cons]; simp only [Sem.run_bind, Sem.run_pure, Result.andThen_ok, hrun]
        · intro i av x hi hx
          cases i with
          | zero => simp only [List.getElem?_cons_zero, Option.some.injEq] at hi hx; subst hi; subst hx; exact hs t av0 h1
          | succ i => simp only [List.getElem?_cons_succ] at hi hx; exact hrep i av x hi hx
  | .cell _ _ :: _, l, h => by simp [rets] at h

/-- What is to be shown where the function ends: the results, and what of all that is owned is handed on. -/
def Fin (fn : Func) (Q : AV → List HA → Prop) : Cont := fun env h => ∃ l k r, rets env fn.results.toList = some l ∧ Tk h k r ∧ Q (retOf l) k

theorem results_end {fn : Func} {B : Base} {vs0 : Nat} (hD : B.D = []) {C : Cont} {a' : Act} {w' : World} {R : Ending → World → Prop} (g : GoodM N B C a' w')
    (hk : ∀ F env h w2, C env h → Sat N F env h a' w2 → Ext B.F B.h B.w F h w2 → ∃ v, (results fn a'.tmps).run P w2 = .ok v w2 ∧ R (.returned v) w2) : LeavesInM Fence.wide 0 P fn a'.tmps R a'.defers .returning w' := by
  obtain ⟨F, env, h, ms, hd, hm, hb, hc, s, e⟩ := g
  rw [hD, List.append_nil] at hd
  rw [hd]
  have key : ∀ (ms : List Nat) (w' : World), MarksOk ms F h w' → (∀ D ∈ ms, B.w.heap.size ≤ D) → Sat N F env h a' w' → Ext B.F B.h B.w F h w' → LeavesInM Fence.wide 0 P fn a'.tmps R (ms.map mark) .returning w' := by
    intro ms
    induction ms with
    | nil => intro w' _ _ s e; obtain ⟨v, h1, h2⟩ := hk F env h w' hc s e; exact ⟨v, h1, h2⟩
    | cons D ms ih =>
      intro w' hm hb s e
      obtain ⟨h1, h2, h3⟩ := hm.2 D (by simp)
      have hlt : D < w'.heap.size := (Array.getElem?_eq_some_iff.1 h1).1
      have hother : ∀ b, b ≠ D → (w'.putObj D (.deferred none)).heap[b]? = w'.heap[b]? := fun b hb => World.putObj_heap_other hb
      have hF : ∀ b, F b → (w'.putObj D (.deferred none)).heap[b]? = w'.heap[b]? := fun b hb => hother b (fun e => h3 (e ▸ hb))
      have hO : ∀ b ∈ owns h, (w'.putObj D (.deferred none)).heap[b]? = w'.heap[b]? := fun b hb => hother b (fun e => h2 (e ▸ hb))
      have hsz : (w'.putObj D (.deferred none)).heap.size = w'.heap.size := by simp
      refine ⟨by simp, .inl ⟨D, _, rfl, run_takeDeferred h1, ih _ ?_ (fun E hE => hb E (by simp [hE])) ?_ ?_⟩⟩
      · refine ⟨(List.nodup_cons.1 hm.1).2, fun E hE => ⟨(hother E (fun e => (List.nodup_cons.1 hm.1).1 (e ▸ hE))).trans (hm.2 E (by simp [hE])).1, (hm.2 E (by simp [hE])).2⟩⟩
      · exact ⟨⟨fun x hx => (s.r.rep x hx).mono (fun _ h => h) hF (fun b hb => hO b (List.mem_flatMap.2 ⟨x, hx, hb⟩)), s.r.nd, fun b hb => by rw [hsz]; exact s.r.lt b hb, fun b hb => ⟨by rw [hsz]; exact (s.r.sep b hb).1, (s.r.sep b hb).2⟩⟩, s.size, fun k av hk => (s.env k av hk).mono (fun _ h => h) hF⟩
      · refine ⟨e.os, e.output, e.tape, by rw [hsz]; exact e.size, fun b hb1 hn => (hother b (fun e1 => ?_)).trans (e.keep b hb1 hn), e.sub, e.mono, e.new, e.dr⟩
        subst e1
        exact absurd (hb b (by simp)) (by omega)
  exact key ms w' hm hb s e

theorem triple_of {f : FuncId} {fn : Func} {c : Code} {args : List AV} {Q : AV → List HA → Prop} (hf : P.funcs[f]? = some fn) (hb : fn.body = some c) (hn : (fn.name == "runtime.NumGoroutine") = false) (hN : fn.ntmps = N) (ha : args.length ≤ N)
    (h1 : AWP P N c (argEnv 0 args) h (Fin fn Q) [] (Fin fn Q)) : Triple P f args h Q := by
  refine ⟨⟨fn, hf, hn, by simp [hb]⟩, fun F w vs hr hreps => ?_⟩
  refine (callsIn_wide (n := 0)).1 (callsIn_of_wp_marks hf hb trivial (wpIn_mono (h1 none F _ w (fun l hl => by cases hl) ?_) ?_) rfl)
  · refine ⟨hr, ?_, ?_⟩
    · have h5 : vs.size = args.length := hreps.1
      show (vs ++ Array.replicate (fn.ntmps - vs.size) undef).size = N
      rw [Array.size_append, Array.size_replicate, h5, hN]
      omega
    · intro k av hk
      obtain ⟨_, h3⟩ := get_argEnv args 0 k av hk
      have hlt : k < vs.size := by
        rw [hreps.1]
        exact (List.getElem?_eq_some_iff.1 h3).1
      have : (vs ++ Array.replicate (fn.ntmps - vs.size) undef).getD k undef = vs[k] := by
        simp [Array.getD_eq_getD_getElem?, Array.getElem?_append, hlt]
      show Rep F w av ((vs ++ Array.replicate (fn.ntmps - vs.size) undef).getD k undef)
      rw [this]
      exact hreps.2 k av _ h3 (by simp [hlt])
  · intro ex a' w' hp
    have key : GoodM N ⟨F, h, w, []⟩ (Fin fn Q) a' w' → LeavesInM Fence.wide 0 P fn a'.tmps (fun e w' => ∃ r x h'' F', e = .returned x ∧ Q r h'' ∧ Rep F' w' r x ∧ R F' h'' w' ∧ Ext F h w F' h'' w') a'.defers .returning w' := by
      intro hp
      refine results_end (vs0 := 0) rfl hp ?_
      show ∀ F' env' h3 w', Fin fn Q env' h3 → Sat N F' env' h3 a' w' → Ext F h w F' h3 w' → ∃ v, (results fn a'.tmps).run P w' = .ok v w' ∧ ∃ r x h'' F', Ending.returned v = .returned x ∧ Q r h'' ∧ Rep F' w' r x ∧ R F' h'' w' ∧ Ext F h w F' h'' w'
      rintro F' env' h3 w' ⟨l, h'', hrr, hl, htk, hq⟩ s' e3
      have e' := e3.subR htk
      obtain ⟨xs, hrun, hlen, hrep⟩ := run_results (P := P) (fun k av hk => s'.env k av hk) fn.results.toList l hl
      refine ⟨(if hsz : xs.length = 1 then xs[0]'(by omega) else .tuple xs.toArray), ?_, retOf l, _, h'', F', rfl, hq, ?_, s'.r.sub htk, e'⟩
      · unfold results
        rw [← Array.toArray_toList (xs := fn.results), List.mapM_toArray]
        simp only [Sem.run_bind, Sem.run_map]
        erw [hrun]
        simp only [Result.andThen_ok, Sem.run_pure]
        by_cases hsz : xs.length = 1
        · simp [hsz]
        · simp [hsz]
      · split
        · rename_i hsz
          match l, hlen, hrep with
          | [av], hlen, hrep => exact hrep 0 av _ rfl (by simp)
          | [], hlen, _ => rw [hsz] at hlen; cases hlen
          | _ :: _ :: _, hlen, _ => rw [hsz, List.length_cons, List.length_cons] at hlen; omega
        · rename_i hsz
          have hl2 : retOf l = .tup l := by
            match l, hlen with
            | [_], hlen => exact absurd hlen hsz
            | [], _ => rfl
            | _ :: _ :: _, _ => rfl
          rw [hl2]
          exact .tup l _ (by simp [hlen]) (fun j av x hj hx => hrep j av x hj (by simpa using hx))
    cases ex with
    | normal => exact key hp
    | ret => exact key hp
    | exit id => obtain ⟨Kx, hl, _⟩ := hp; simp [look] at hl
    | goto l => exact hp.elim
    | panic c => exact hp.elim
    | outgrown => exact hp.elim

/-! ### At a call -/
def evs (env : Env) : List Operand → Option (List AV)
  | [] => some []
  | x :: r => match ev env x, evs env r with
    | some a, some l => some (a :: l)
    | _, _ => none

theorem reps_evs {F : Nat → Prop} {a : Act} {w : World} (s : Sat N F env h a w) : ∀ (xs : List Operand) (l : List AV), evs env xs = some l → Reps F w l (xs.map a.eval).toArray
  | [], l, hl => by simp only [evs, Option.some.injEq] at hl; subst hl; exact ⟨rfl, fun i av x h => by simp at h⟩
  | x :: r, l, hl => by
    simp only [evs] at hl
    cases h1 : ev env x with
    | none => rw [h1] at hl; simp at hl
    | some a0 =>
      cases h2 : evs env r with
      | none => rw [h1, h2] at hl; simp at hl
      | some l0 =>
        rw [h1, h2] at hl
        simp only [Option.some.injEq] at hl
        subst hl
        obtain ⟨h3, h4⟩ := reps_evs s r l0 h2
        refine ⟨by simpa using h3, fun i av x hi hx => ?_⟩
        cases i with
        | zero => simp at hi hx; subst hi; subst hx; exact s.ev h1
        | succ i => simp at hi hx; exact h4 i av x hi (by simpa using hx)

theorem exec_call {o : Oper} {a : Act} {w : World} {fo : Operand} {xs : Array Operand} {ts : Array TypeId} {f : FuncId} {caps : Array Value} (hop : o.op = .call ⟨.value fo, xs, ts⟩) (hfo : a.eval fo = .func (.func f) #[] caps) (hb : HasBody P f) :
    (execOp a.eval o).run P w = .ok (.enter f (xs.map a.eval ++ caps)) w := by
  obtain ⟨fn, hf, hn, hbody⟩ := hb
  have hn' : ¬ fn.name = "runtime.NumGoroutine" := by simpa using hn
  have hb' : ¬ fn.body = none := fun h => by rw [h] at hbody; cases hbody
  simp [execOp, hop, resolve, Deferred.ofValue, hfo, invoke, callFunc, hf, hn', hb']

/-- A call of a function that is known, with what it captured; of what is owned it is handed hin. -/
theorem aCall {o : Oper} {d : Nat} {fo : Operand} {xs : Array Operand} {ts : Array TypeId} {f : FuncId} {caps : List AV} {l : List AV} {hin hfr : List HA} {Q : AV → List HA → Prop} (hop : o.op = .call ⟨.value fo, xs, ts⟩) (hd : o.dst = some d) (hN : d < N)
    (hfo : ev env fo = some (.fn (.func f) caps)) (hl : evs env xs.toList = some l) (ht : Tk h hin hfr) (t : Triple P f (l ++ caps) hin Q) (hk : ∀ r h', Q r h' → K ((d, r) :: env) (h' ++ hfr)) : AOp P N o env h K := by
  intro B F a w Qx s e hdef
  have hfv := s.ev hfo
  generalize hv : a.eval fo = v at hfv
  cases hfv with
  | fn _ _ cx hcl hcr =>
    unfold Oper.wp
    rw [exec_call hop hv t.1, Oper.upon_enter]
    have hp := ht.perm
    have hr1 := s.r.perm hp
    have hnd : (owns hin ++ owns hfr).Nodup := by rw [← owns_append]; exact hr1.nd
    have hrin : R F hin w := ⟨fun x hx => hr1.rep x (by simp [hx]), (List.nodup_append.1 hnd).1, fun b hb => hr1.lt b (by simp [owns_append, hb]), fun b hb => ⟨(hr1.sep b hb).1, fun hm => (hr1.sep b hb).2 (by simp [owns_append, hm])⟩⟩
    obtain ⟨hz1, hz2⟩ := reps_evs s xs.toList l hl
    refine (t.2 F w _ hrin ⟨?_, ?_⟩).mono ?_
    · simpa [hcl] using hz1
    · intro i av x hi hx
      have hsz : (xs.map a.eval).size = l.length := by simpa using hz1
      rcases Nat.lt_or_ge i l.length with hlt | hge
      · rw [List.getElem?_append_left hlt] at hi
        rw [Array.getElem?_append_left (by rw [hsz]; exact hlt)] at hx
        exact hz2 i av x hi (by simpa using hx)
      · rw [List.getElem?_append_right hge] at hi
        rw [Array.getElem?_append_right (by rw [hsz]; exact hge), hsz] at hx
        exact hcr _ av x hi hx
    · rintro ex w' ⟨r, x, h', F', rfl, hq, hrep, hR', hE⟩
      simp only [hd]
      -- the frame
      have hfrb : ∀ b ∈ owns hfr, b ∉ owns hin := fun b hb hm => (List.nodup_append.1 hnd).2.2 b hm b hb rfl
      have hkeepfr : ∀ b ∈ owns hfr, w'.heap[b]? = w.heap[b]? := fun b hb => hE.keep b (hr1.lt b (by simp [owns_append, hb])) (hfrb b hb)
      have hset := hrin.settled hE
      have hR2 : R F' (h' ++ hfr) w' := by
        refine ⟨fun y hy => ?_, ?_, ?_, ?_⟩
        · rcases List.mem_append.1 hy with hy | hy
          · exact hR'.rep y hy
          · exact (hr1.rep y (by simp [hy])).mono hE.mono hset (fun b hb => hkeepfr b (List.mem_flatMap.2 ⟨y, hy, hb⟩))
        · rw [owns_append]
          refine List.nodup_append.2 ⟨hR'.nd, (List.nodup_append.1 hnd).2.1, ?_⟩
          rintro b hb c hc rfl
          rcases hE.sub b hb with h1 | h1
          · exact hfrb b hc h1
          · have := hr1.lt b (by simp [owns_append, hc]); omega
        · intro b hb
          rw [owns_append] at hb
          rcases List.mem_append.1 hb with hb | hb
          · exact hR'.lt b hb
          · exact Nat.lt_of_lt_of_le (hr1.lt b (by simp [owns_append, hb])) hE.size
        · intro b hb
          refine ⟨(hR'.sep b hb).1, fun hm => ?_⟩
          rw [owns_append] at hm
          rcases List.mem_append.1 hm with hm | hm
          · exact (hR'.sep b hb).2 hm
          · rcases hE.new b hb with h1 | h1 | h1
            · exact (hr1.sep b h1).2 (by simp [owns_append, hm])
            · exact hfrb b hm h1
            · have := hr1.lt b (by simp [owns_append, hm]); omega
      have hE2 : Ext F h w F' (h' ++ hfr) w' := by
        refine Ext.permL hp.symm ⟨hE.os, hE.output, hE.tape, hE.size, fun b hb hn => hE.keep b hb (fun hm => hn (by simp [owns_append, hm])), ?_, hE.mono, ?_, hE.dr⟩
        · intro b hb
          rw [owns_append] at hb ⊢
          rcases List.mem_append.1 hb with hb | hb
          · rcases hE.sub b hb with h1 | h1
            · exact .inl (List.mem_append_left _ h1)
            · exact .inr h1
          · exact .inl (List.mem_append_right _ hb)
        · intro b hb
          rcases hE.new b hb with h1 | h1 | h1
          · exact .inl h1
          · exact .inr (.inl (by rw [owns_append]; exact List.mem_append_left _ h1))
          · exact .inr (.inr h1)
      exact ⟨hdef, F', _, _, hk r h' hq, s.put hE2 hR2 hN hrep, e.trans hE2⟩

end A
end Go.Proofs.Ytmcannmjielalaa
