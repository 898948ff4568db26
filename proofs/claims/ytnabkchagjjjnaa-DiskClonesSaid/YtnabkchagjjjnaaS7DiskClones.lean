/- Texts that DiskClones's proof rests on, part 8. -/
import Derived.KernelRfl
import Derived.Test.YtnabkchagjjjnaaRows
import Derived.Test.YtnabkchagjjjnaaS6DiskClones
set_option linter.unusedSimpArgs false
namespace Go.Proofs.Ytnabkchagjjjnaa
namespace A
def sgA : List Char := [104, 97, 114, 110, 101, 115, 115].map Char.ofNat
def sgB : List Char := [54, 98, 48, 99, 55, 54, 49, 102, 52, 98, 53, 55, 50, 99, 100, 54, 51, 53, 101, 100, 52, 56, 56, 49, 49, 56, 57, 53, 57, 98, 48, 100, 97, 48, 53, 49, 99, 57, 56, 53, 98, 99, 101, 101, 102, 50, 102, 97, 51, 52, 50, 100, 54, 99, 55, 101, 99, 101, 102, 48, 53, 53, 53, 102].map Char.ofNat
def sgC : List Char := [99, 117, 116].map Char.ofNat
def sgT : List Char := [97, 116, 32, 119, 97, 121, 109, 97, 114, 107, 47, 119, 97, 121, 109, 97, 114, 107, 108, 97, 119, 48, 51, 46, 68, 105, 115, 107, 67, 108, 111, 110, 101, 115, 32, 119, 97, 121, 109, 97, 114, 107, 47, 119, 97, 121, 109, 97, 114, 107, 108, 97, 119, 51, 57, 46, 66, 114, 105, 100, 103, 101, 70, 105, 110, 100, 115, 32, 119, 97, 121, 109, 97, 114, 107, 47, 119, 97, 121, 109, 97, 114, 107, 108, 97, 119, 51, 57, 46, 66, 114, 105, 100, 103, 101, 80, 105, 101, 99, 101, 115].map Char.ofNat
theorem initIs : Try.prog.initOrder = String.ofList (sgA ++ Char.ofNat 32 :: (sgB ++ Char.ofNat 32 :: (sgC ++ Char.ofNat 32 :: sgT))) := by kernel_rfl
theorem words_cons {c : Char} (h : c ≠ Char.ofNat 32) (r : List Char) : wordsSigns (c :: r) = match wordsSigns r with | w :: ws => (c :: w) :: ws | [] => [[c]] := by
  rw [wordsSigns]
  · rfl
  · exact h
theorem words_step : ∀ (w r : List Char), (∀ c ∈ w, c ≠ Char.ofNat 32) → wordsSigns (w ++ Char.ofNat 32 :: r) = w :: wordsSigns r
  | [], r, _ => by rw [List.nil_append, wordsSigns]
  | c :: w, r, h => by rw [List.cons_append, words_cons (h c (by simp)), words_step w r (fun d hd => h d (by simp [hd]))]
theorem initWords : wordsSigns Try.prog.initOrder.toList = sgA :: sgB :: sgC :: wordsSigns sgT := by
  rw [initIs, String.toList_ofList, words_step _ _ (by decide +kernel), words_step _ _ (by decide +kernel), words_step _ _ (by decide +kernel)]
theorem behW : behindMainWord (sgA :: sgB :: sgC :: wordsSigns sgT) = sgC :: wordsSigns sgT := by kernel_rfl
theorem stripW : stripLifts liftWords (sgC :: wordsSigns sgT) = ([], sgC :: wordsSigns sgT) := by kernel_rfl
theorem eqCs : (sgC == "gc".toList) = false ∧ (sgC == "spec".toList) = false ∧ (sgC == "carried".toList) = false ∧ (some sgC == some "cut".toList) = true := by refine ⟨?_, ?_, ?_, ?_⟩ <;> kernel_rfl
theorem laysL : Try.prog.laysLater = false := by kernel_rfl
theorem bearsR : Try.prog.bearsReflect = false := by kernel_rfl
theorem doorR : Try.prog.doorRows = [] := by kernel_rfl
theorem doorF : Try.prog.doorFits [] = true := by
  unfold Program.doorFits
  rw [doorR]
  kernel_rfl
theorem mayE_of {P : Program} {h s c : List Char} {t : List (List Char)} (hw : wordsSigns P.initOrder.toList = h :: s :: c :: t) (hb : behindMainWord (h :: s :: c :: t) = c :: t) (hs : stripLifts liftWords (c :: t) = ([], c :: t))
    (h1 : (c == "gc".toList) = false) (h2 : (c == "spec".toList) = false) (h3 : (c == "carried".toList) = false) (h4 : (some c == some "cut".toList) = true) (hl : P.laysLater = false) (hr : P.bearsReflect = false) (hd : P.doorFits [] = true) : P.mayEnter = true := by
  unfold Program.mayEnter
  rw [hw, hb]
  simp only []
  rw [hs, h1, h2, h3, hl, hr, hd]
  simp only [List.head?_cons, h4]
  rfl
theorem mayE : Try.prog.mayEnter = true := mayE_of initWords behW stripW eqCs.1 eqCs.2.1 eqCs.2.2.1 eqCs.2.2.2 laysL bearsR doorF
theorem lifF_of {P : Program} {h s c : List Char} {t : List (List Char)} (hw : wordsSigns P.initOrder.toList = h :: s :: c :: t) (hb : behindMainWord (h :: s :: c :: t) = c :: t) (hs : stripLifts liftWords (c :: t) = ([], c :: t))
    (h3 : (some c == some "carried".toList) = false) : P.liftsFinal = false := by
  unfold Program.liftsFinal Program.headLifts
  rw [hw, hb]
  simp only []
  rw [hs, List.head?_cons, h3]
  simp
theorem lifF : Try.prog.liftsFinal = false := lifF_of initWords behW stripW (by kernel_rfl)
theorem mkC_of {P : Program} {h s c : List Char} {t : List (List Char)} (hw : wordsSigns P.initOrder.toList = h :: s :: c :: t) (hb : behindMainWord (h :: s :: c :: t) = c :: t)
    (h1 : (c == "gc".toList) = false) (h2 : (c == "spec".toList) = false) (h4 : (c == "cut".toList) = true) : P.make = some .cut := by
  unfold Program.make
  rw [hw, hb]
  simp only []
  rw [h1, h2, h4]
  rfl
theorem mkC : Try.prog.make = some .cut := mkC_of initWords behW eqCs.1 eqCs.2.1 (by kernel_rfl)
theorem laidAll : laidOutB Try.prog = true := by kernel_rfl
theorem mapsAll : mapsRowed Try.prog = true := by kernel_rfl
theorem stopsAll : Try.prog.stopsHeard = true := by kernel_rfl
end A
end Go.Proofs.Ytnabkchagjjjnaa
set_option linter.unusedVariables false
set_option linter.unusedSimpArgs false
namespace Go.Proofs.Ytnabkchagjjjnaa
namespace A
variable {P : Program} {N : Nat} {env : Env} {h : List HA} {K : Cont} {X : List (Nat × Cont)} {Rt : Cont}
/-- What a call leaves goes with what it was not handed. -/
theorem R.frame {F F' : Nat → Prop} {hin hfr h' : List HA} {w w' : World} (hr1 : R F (hin ++ hfr) w) (hR' : R F' h' w') (hE : Ext F hin w F' h' w') : R F' (h' ++ hfr) w' ∧ Ext F (hin ++ hfr) w F' (h' ++ hfr) w' := by
  have hnd : (owns hin ++ owns hfr).Nodup := by rw [← owns_append]; exact hr1.nd
  have hrin : R F hin w := ⟨fun x hx => hr1.rep x (by simp [hx]), (List.nodup_append.1 hnd).1, fun b hb => hr1.lt b (by simp [owns_append, hb]), fun b hb => ⟨(hr1.sep b hb).1, fun hm => (hr1.sep b hb).2 (by simp [owns_append, hm])⟩⟩
  have hfrb : ∀ b ∈ owns hfr, b ∉ owns hin := fun b hb hm => (List.nodup_append.1 hnd).2.2 b hm b hb rfl
  have hkeepfr : ∀ b ∈ owns hfr, w'.heap[b]? = w.heap[b]? := fun b hb => hE.keep b (hr1.lt b (by simp [owns_append, hb])) (hfrb b hb)
  have hset := hrin.settled hE
  refine ⟨⟨fun y hy => ?_, ?_, ?_, ?_⟩, hE.os, hE.output, hE.tape, hE.size, fun b hb hn => hE.keep b hb (fun hm => hn (by simp [owns_append, hm])), ?_, hE.mono, ?_, hE.dr⟩
  · rcases List.mem_append.1 hy with hy | hy
    · exact hR'.rep y hy
    · exact (hr1.rep y (by simp [hy])).mono hE.mono hset (fun b hb => hkeepfr b (List.mem_flatMap.2 ⟨y, hy, hb⟩))
  · rw [owns_append]
    refine List.nodup_append.2 ⟨hR'.nd, (List.nodup_append.1 hnd).2.1, ?_⟩
    rintro b hb c hc rfl
    rcases hE.sub b hb with h1 | h1
    · exact hfrb b hc h1
    · have := hr1.lt b (by simp [owns_append, hc]); omega
  · intro b hb
    rw [owns_append] at hb
    rcases List.mem_append.1 hb with hb | hb
    · exact hR'.lt b hb
    · exact Nat.lt_of_lt_of_le (hr1.lt b (by simp [owns_append, hb])) hE.size
  · intro b hb
    refine ⟨(hR'.sep b hb).1, fun hm => ?_⟩
    rw [owns_append] at hm
    rcases List.mem_append.1 hm with hm | hm
    · exact (hR'.sep b hb).2 hm
    · rcases hE.new b hb with h1 | h1 | h1
      · exact (hr1.sep b h1).2 (by simp [owns_append, hm])
      · exact hfrb b hm h1
      · have := hr1.lt b (by simp [owns_append, hm]); omega
  · intro b hb
    rw [owns_append] at hb ⊢
    rcases List.mem_append.1 hb with hb | hb
    · rcases hE.sub b hb with h1 | h1
      · exact .inl (List.mem_append_left _ h1)
      · exact .inr h1
    · exact .inl (List.mem_append_right _ hb)
  · intro b hb
    rcases hE.new b hb with h1 | h1 | h1
    · exact .inl h1
    · exact .inr (.inl (by rw [owns_append]; exact List.mem_append_left _ h1))
    · exact .inr (.inr h1)
theorem R.tail {F : Nat → Prop} {x : HA} {h : List HA} {w : World} (r : R F (x :: h) w) : R F h w :=
  ⟨fun y hy => r.rep y (by simp [hy]), (List.nodup_append.1 (show (x.own ++ owns h).Nodup from r.nd)).2.1, fun b hb => r.lt b (by simp [hb]), fun b hb => ⟨(r.sep b hb).1, fun hm => (r.sep b hb).2 (by simp [hm])⟩⟩
theorem R.loop {F : Nat → Prop} {l : Nat} {r : Loop} {env : Env} {h : List HA} {w : World} (hr : R F (.loop l r env :: h) w) : w.heap[l]? = some (.loop r) ∧ ∀ k av, get env k = some av → Rep F w av (r.tmps.getD k undef) := hr.rep (.loop l r env) (List.mem_cons_self ..)
theorem Ext.tailR {F F' : Nat → Prop} {x : HA} {h h' : List HA} {w w' : World} (e : Ext F h w F' (x :: h') w') : Ext F h w F' h' w' :=
  ⟨e.os, e.output, e.tape, e.size, e.keep, fun b hb => e.sub b (by simp [hb]), e.mono, e.new, e.dr⟩
/-- One thing goes along at the head. -/
theorem R.frame1 {F F' : Nat → Prop} {x : HA} {h h' : List HA} {w w' : World} (r : R F (x :: h) w) (hR' : R F' h' w') (hE : Ext F h w F' h' w') : R F' (x :: h') w' ∧ Ext F (x :: h) w F' (x :: h') w' := by
  have p1 : (x :: h).Perm (h ++ [x]) := (List.perm_append_singleton x h).symm
  have p2 : (h' ++ [x]).Perm (x :: h') := List.perm_append_singleton x h'
  obtain ⟨a, b⟩ := (r.perm p1).frame hR' hE
  exact ⟨a.perm p2, (b.permL p1.symm).permR p2⟩
/-- A round of loop l, handed args, and owning what h says: it is run through; what Q says holds then. -/
def YTriple (P : Program) (l : Nat) (args : List AV) (h : List HA) (Q : AV → List HA → Prop) : Prop :=
  ∀ F w vs, R F h w → Reps F w args vs → ∃ f tmps assign body, (Instr.yield l vs).run P w = .ok (.round l f tmps assign body) w ∧
    RoundIn Fence.wide 0 P l f tmps assign body w fun e w' => ∃ r x h' F', e = .returned x ∧ Q r h' ∧ Rep F' w' r x ∧ R F' h' w' ∧ Ext F h w F' h' w'
theorem exec_yield {o : Oper} {a : Act} {w : World} {fo : Operand} {xs : Array Operand} {ts : Array TypeId} {l : Nat} {caps : Array Value} {r : Next} (hop : o.op = .call ⟨.value fo, xs, ts⟩) (hfo : a.eval fo = .func (.yield l) #[] caps)
    (hy : (Instr.yield l (xs.map a.eval)).run P w = .ok r w) : (execOp a.eval o).run P w = .ok r w := by
  simp [execOp, hop, resolve, Deferred.ofValue, hfo, invoke, hy]
/-- At a call of yield. -/
theorem oYield {ops : Array Oper} {o : Oper} {rest : List Oper} {d l : Nat} {fo : Operand} {xs : Array Operand} {ts : Array TypeId} {caps args : List AV} {hfr hc : List HA} {Q : AV → List HA → Prop} (hg : o.guard = none) (hop : o.op = .call ⟨.value fo, xs, ts⟩)
    (hd : o.dst = some d) (hN : d < N) (hfo : ev env fo = some (.fn (.yield l) caps)) (hl : evs env xs.toList = some args) (t : YTriple P l args hc Q)
    (hk : ∀ r h', Q r h' → AOps P N ops rest ((d, r) :: env) (hfr ++ h') K X Rt) : AOps P N ops (o :: rest) env (hfr ++ hc) K X Rt := by
  intro B k F a w hr s e hdef
  obtain ⟨h2, h3, h4⟩ := range_drop hr
  rw [h4, wpOpsIn_cons]
  unfold wpOpIn
  simp only [h2, Region.wanted, hg, if_true]
  have hfv := s.ev hfo
  generalize hv : a.eval fo = v at hfv
  cases hfv with
  | fn _ _ cx hcl hcr =>
    have p1 : (hfr ++ hc).Perm (hc ++ hfr) := List.perm_append_comm
    have r1 := s.r.perm p1
    have hnd : (owns hc ++ owns hfr).Nodup := by rw [← owns_append]; exact r1.nd
    have rc : R F hc w := ⟨fun x hx => r1.rep x (by simp [hx]), (List.nodup_append.1 hnd).1, fun b hb => r1.lt b (by simp [owns_append, hb]), fun b hb => ⟨(r1.sep b hb).1, fun hm => (r1.sep b hb).2 (by simp [owns_append, hm])⟩⟩
    obtain ⟨hz1, hz2⟩ := reps_evs s xs.toList args hl
    obtain ⟨f, tmps, assign, body, hy, hround⟩ := t F w (xs.map a.eval) rc ⟨by simpa using hz1, fun i av x hi hx => hz2 i av x hi (by simpa using hx)⟩
    refine ⟨fun _ _ => trivial, ?_⟩
    have hsem : (o.semAt (Fence.wide).round a.eval).run P w = (execOp a.eval o).run P w := by
      rw [Oper.semAt_eq _ _ _ (by intro c hc; rw [hop] at hc; cases hc)]
    rw [hsem, exec_yield hop hv hy, Oper.uponIn_round]
    refine ⟨fun hh => by simp [Fence.wide] at hh, hround.mono ?_⟩
    rintro ex w' ⟨r, x, h', F', rfl, hq, hrep, hR', hE⟩
    simp only [hd]
    obtain ⟨hR2, hE2⟩ := r1.frame hR' hE
    have p2 : (h' ++ hfr).Perm (hfr ++ h') := List.perm_append_comm
    have hE3 : Ext F (hfr ++ hc) w F' (hfr ++ h') w' := (hE2.permL p1.symm).permR p2
    exact hk r h' hq B (k + 1) F' _ w' h3 (s.put hE3 (hR2.perm p2) hN hrep) (e.trans hE3) hdef
/-- An iterator's contract: Nx pre x: behind pre it may hand x to yield; E xs: it may end behind xs. It owns hit. -/
def IterT (P : Program) (f : FuncId) (caps : List AV) (Nx : List (List AV) → List AV → Prop) (E : List (List AV) → Prop) (hit : List HA) : Prop :=
  HasBody P f ∧ ∀ (l : Nat) (I : List (List AV) → List HA → Prop) (S : List HA → Prop),
    (∀ pre x hc, Nx pre x → I pre hc → YTriple P l x hc (fun r h' => (r = .bool true ∧ I (pre ++ [x]) h') ∨ (r = .bool false ∧ S h'))) →
    ∀ hc, I [] hc → Triple P f (.fn (.yield l) [] :: caps) (hit ++ hc) (fun r h' => ∃ hc', h' = hit ++ hc' ∧ ((∃ xs, E xs ∧ I xs hc') ∨ S hc'))
def zipEnv : List Nat → List AV → Env → Env
  | p :: ps, x :: xs, env => zipEnv ps xs ((p, x) :: env)
  | _, _, env => env
theorem zipEnv_get {F : Nat → Prop} {w : World} : ∀ (ps : List Nat) (args : List AV) (vs : List Value) (env : Env) (tm : Array Value), args.length = ps.length → vs.length = args.length → (∀ (i : Nat) av x, args[i]? = some av → vs[i]? = some x → Rep F w av x) → (∀ p ∈ ps, p < tm.size) →
    (∀ k av, get env k = some av → Rep F w av (tm.getD k undef)) → ∀ k av, get (zipEnv ps args env) k = some av → Rep F w av (((ps.zip vs).foldl (fun t (p, v) => t.setIfInBounds p v) tm).getD k undef)
  | [], args, vs, env, tm, _, _, _, _, h, k, av, hk => by
    have : get env k = some av := by cases args <;> exact hk
    simpa using h k av this
  | p :: ps, [], vs, env, tm, h1, _, _, _, _, _, _, _ => by simp at h1
  | p :: ps, x :: xs, [], env, tm, _, h2, _, _, _, _, _, _ => by simp at h2
  | p :: ps, x :: xs, y :: ys, env, tm, h1, h2, h3, h4, h5, k, av, hk => by
    have hp : p < tm.size := h4 p (by simp)
    simp only [List.zip_cons_cons, List.foldl_cons]
    refine zipEnv_get ps xs ys ((p, x) :: env) (tm.setIfInBounds p y) (by simpa using h1) (by simpa using h2) (fun i av x hi hx => h3 (i + 1) av x (by simpa using hi) (by simpa using hx)) (fun q hq => by simpa using h4 q (by simp [hq])) ?_ k av hk
    intro k av hk
    simp only [Array.getD_eq_getD_getElem?, Array.getElem?_setIfInBounds]
    by_cases hpk : p = k
    · subst hpk
      simp only [get, show Nat.beq p p = true by simp, cond_true, Option.some.injEq] at hk
      subst hk
      simpa [hp] using h3 0 _ y rfl rfl
    · simp only [get, beq_no hpk, cond_false] at hk
      have := h5 k av hk
      rw [Array.getD_eq_getD_getElem?] at this
      simpa [hpk] using this
theorem foldl_size : ∀ (l : List (Nat × Value)) (tm : Array Value), (l.foldl (fun t (p, v) => t.setIfInBounds p v) tm).size = tm.size
  | [], tm => rfl
  | (p, v) :: l, tm => by rw [List.foldl_cons, foldl_size l]; simp
/-- What the exits of a round's body come to: the loop's own frame goes on, with what the rounds left. -/
abbrev outX (env : Env) (hit : List HA) (X : List (Nat × Cont)) : List (Nat × Cont) := X.map fun p => (p.1, fun _ h' => p.2 env (hit ++ h'))
theorem look_outX {env : Env} {hit : List HA} {id : Nat} {Kx : Cont} : ∀ {X : List (Nat × Cont)}, look (outX env hit X) id = some Kx → ∃ K0, look X id = some K0 ∧ Kx = fun _ h' => K0 env (hit ++ h')
  | [], h => by simp [look] at h
  | (k, c) :: t, h => by
    simp only [outX, List.map_cons, look] at h ⊢
    cases hk : Nat.beq k id with
    | true => rw [hk] at h; simp only [cond_true, Option.some.injEq] at h; exact ⟨c, rfl, h.symm⟩
    | false => rw [hk] at h; exact look_outX h
section
variable {α : Type}
/-- One round. -/
theorem yround {l : Nat} {fn : FuncId} {r0 : Loop} {ps : List Nat} {assign body : Code} {hit : List HA} {x : List AV} {G0 : List HA} {C : List HA → Prop} (hst : r0.state = .ready) (hpd : r0.pending = none) (hfn : r0.fn = fn) (hsz : r0.tmps.size = N) (hps : r0.params.toList = ps) (has : r0.assign = assign) (hbo : r0.body = body)
    (hpn : ∀ p ∈ ps, p < N) (hx : x.length = ps.length)
    (h1 : AWP P N assign (zipEnv ps x env) G0 (fun env' h' => AWP P N body env' h' (fun _ h'' => C h'') (outX env hit X) (fun _ h'' => Rt env (hit ++ h''))) [] (fun _ _ => False)) :
    YTriple P l x (.loop l r0 env :: G0) (fun r h' => (r = .bool true ∧ ∃ h'', h' = .loop l r0 env :: h'' ∧ C h'') ∨
      (r = .bool false ∧ ∃ c h'', h' = .loop l { r0 with state := .done, pending := some c } env :: h'' ∧ ((c = .ret ∧ Rt env (hit ++ h'')) ∨ ∃ id K0, c = .exit id ∧ look X id = some K0 ∧ K0 env (hit ++ h'')))) := by
  subst has
  subst hbo
  intro F w vs hR hreps
  have hL : w.heap[l]? = some (.loop r0) := hR.loop.1
  have henv := hR.loop.2
  have hlown : ∀ {F h w} {r : Loop}, R F (HA.loop l r env :: h) w → l ∉ owns h ∧ ¬ F l := fun {F h w r} hr => ⟨fun hm => by have := hr.nd; simp [HA.own] at this; exact this.1 hm, fun hf => (hr.sep l hf).2 (by simp [HA.own])⟩
  have hpsz : vs.size = r0.params.size := by rw [hreps.1, hx, ← hps]; simp
  have hy := run_yield (P := P) hL hpsz
  refine ⟨_, _, _, _, hy, roundIn_of_wpIn trivial ?_⟩
  have hRo : RoOk (some l) F G0 w := fun l' e => by cases e; exact ⟨⟨r0, hL⟩, hlown hR⟩
  have hfold : (r0.params.zip vs).foldl (fun tmps (t, a) => tmps.setIfInBounds t a) r0.tmps = ((ps.zip vs.toList).foldl (fun t (p, v) => t.setIfInBounds p v) r0.tmps) := by
    rw [← Array.foldl_toList, Array.toList_zip, hps]
  rw [hfold]
  have s0 : Sat N F (zipEnv ps x env) G0 { tmps := (ps.zip vs.toList).foldl (fun t (p, v) => t.setIfInBounds p v) r0.tmps, defers := [] } w :=
    ⟨hR.tail, by show Array.size _ = N; rw [foldl_size, hsz], zipEnv_get ps x vs.toList env r0.tmps hx (by simpa using hreps.1) (fun i av y hi hy => hreps.2 i av y hi (by simpa using hy)) (fun p hp => by rw [hsz]; exact hpn p hp) henv⟩
  refine wpIn_mono (h1 (some l) F _ w hRo s0) ?_
  intro ex a1 w1 hp
  cases ex with
  | exit id => obtain ⟨Kx, hl, _⟩ := hp; simp [look] at hl
  | ret => obtain ⟨F1, env1, h1, ms1, _, _, _, hf, _⟩ := hp; exact hf.elim
  | goto t => exact hp.elim
  | panic c => exact hp.elim
  | outgrown => exact hp.elim
  | normal =>
    obtain ⟨F1, env1, h1, ms1, _, _, _, hk1, s1, e1⟩ := hp
    obtain ⟨R1, E1⟩ := hR.frame1 s1.r e1
    have hL1 : w1.heap[l]? = some (.loop r0) := R1.loop.1
    show ∃ w₂, (Instr.beginRound l).run P w1 = .ok () w₂ ∧ _
    refine ⟨_, run_beginRound hL1 hst, ?_⟩
    have hlt1 : l < w1.heap.size := (Array.getElem?_eq_some_iff.1 hL1).1
    have upd : ∀ {F : Nat → Prop} {h : List HA} {w : World} {r r' : Loop}, R F (.loop l r env :: h) w → r'.tmps = r.tmps → R F (.loop l r' env :: h) (w.putObj l (.loop r')) ∧ Ext F (.loop l r env :: h) w F (.loop l r' env :: h) (w.putObj l (.loop r')) := by
      intro F h w r r' hr ht
      have hL := hr.loop.1
      have henv := hr.loop.2
      have hlt : l < w.heap.size := (Array.getElem?_eq_some_iff.1 hL).1
      have hoth : ∀ b, b ∉ (HA.loop l r env).own → (w.putObj l (.loop r')).heap[b]? = w.heap[b]? := fun b hb => World.putObj_heap_other (by simpa [HA.own] using hb)
      refine hr.upd .hd rfl rfl rfl rfl (by simp) hoth ⟨World.putObj_heap_same hlt, fun k av hk => ?_⟩
      rw [ht]
      exact (henv k av hk).mono (fun _ h => h) (fun b hb => hoth b (fun hm => by simp [HA.own] at hm; subst hm; exact (hlown hr).2 hb))
    obtain ⟨R2, E2⟩ := upd (r' := { r0 with state := .busy }) R1 rfl
    have s2 : Sat N F1 env1 h1 a1 (w1.putObj l (.loop { r0 with state := .busy })) := ⟨R2.tail, s1.size, fun k av hk => (s1.env k av hk).mono (fun _ h => h) (fun b hb => World.putObj_heap_other (fun e => (hlown R1).2 (e ▸ hb)))⟩
    have hL2 := R2.loop.1
    have hRo2 : RoOk (some l) F1 h1 (w1.putObj l (.loop { r0 with state := .busy })) := fun l' e => by cases e; exact ⟨⟨_, hL2⟩, hlown R2⟩
    refine wpIn_mono (hk1 (some l) F1 a1 _ hRo2 s2) ?_
    intro ex a3 w3 hp
    have fin : ∀ {C : Cont}, GoodM N ⟨F1, h1, w1.putObj l (.loop { r0 with state := .busy }), a1.defers⟩ C a3 w3 → ∀ jump : Option Code, ∃ F3 env3 h3, C env3 h3 ∧ (Instr.endRound l jump).run P w3 = .ok (.bool jump.isNone) (w3.putObj l (.loop { r0 with state := if jump.isNone then .ready else .done, pending := jump })) ∧
        R F3 (.loop l { r0 with state := if jump.isNone then .ready else .done, pending := jump } env :: h3) (w3.putObj l (.loop { r0 with state := if jump.isNone then .ready else .done, pending := jump })) ∧
        Ext F (.loop l r0 env :: G0) w F3 (.loop l { r0 with state := if jump.isNone then .ready else .done, pending := jump } env :: h3) (w3.putObj l (.loop { r0 with state := if jump.isNone then .ready else .done, pending := jump })) := by
      intro C hp jump
      obtain ⟨F3, env3, h3, ms3, _, _, _, hk3, s3, e3⟩ := hp
      obtain ⟨R3, E3⟩ := R2.frame1 s3.r e3
      have hL3 := R3.loop.1
      obtain ⟨R4, E4⟩ := upd (r' := { r0 with state := if jump.isNone then .ready else .done, pending := jump }) R3 rfl
      exact ⟨F3, env3, h3, hk3, by have := run_endRound (P := P) jump hL3; simpa using this, R4, ((E1.trans E2).trans E3).trans E4⟩
    cases ex with
    | normal =>
      obtain ⟨F3, env3, h3, hk3, hr, R4, E4⟩ := fin hp none
      have hr0 : ({ r0 with state := if (none : Option Code).isNone then .ready else .done, pending := none } : Loop) = r0 := by
        cases r0; simp at hst hpd ⊢; exact ⟨hst.symm, hpd.symm⟩
      rw [hr0] at hr R4 E4
      exact ⟨_, _, hr, .bool true, _, _, F3, rfl, .inl ⟨rfl, h3, rfl, hk3⟩, .v _, R4, E4⟩
    | exit id =>
      obtain ⟨Kx, hl, hp⟩ := hp
      obtain ⟨K0, hl0, rfl⟩ := look_outX hl
      obtain ⟨F3, env3, h3, hk3, hr, R4, E4⟩ := fin hp (some (.exit id))
      exact ⟨_, _, hr, .bool false, _, _, F3, rfl, .inr ⟨rfl, _, h3, rfl, .inr ⟨id, K0, rfl, hl0, hk3⟩⟩, .v _, R4, E4⟩
    | ret =>
      obtain ⟨F3, env3, h3, hk3, hr, R4, E4⟩ := fin hp (some .ret)
      exact ⟨_, _, hr, .bool false, _, _, F3, rfl, .inr ⟨rfl, _, h3, rfl, .inl ⟨rfl, hk3⟩⟩, .v _, R4, E4⟩
    | goto t => exact hp.elim
    | panic c => exact hp.elim
    | outgrown => exact hp.elim
theorem YTriple.mono {l : Nat} {args : List AV} {Q Q' : AV → List HA → Prop} (t : YTriple P l args h Q) (hq : ∀ r h', Q r h' → Q' r h') : YTriple P l args h Q' := fun F w vs hr ha =>
  let ⟨f, tm, a, b, hy, hro⟩ := t F w vs hr ha
  ⟨f, tm, a, b, hy, hro.mono fun e w' ⟨r, x, h', F', he, q, rest⟩ => ⟨r, x, h', F', he, hq r h' q, rest⟩⟩
theorem aPostWeak {c : Code} (h1 : AWP P N c env h (fun env' h' => ∃ e2 h2, Weak N env' h' e2 h2 ∧ K e2 h2) X Rt) : AWP P N c env h K X Rt := by
  intro ro F a w k s
  refine wpIn_mono (h1 ro F a w k s) ?_
  intro ex a' w' hp
  cases ex with
  | normal =>
    obtain ⟨F', env', h', ms, hd, hm, hb, ⟨e2, h2, hw, hk⟩, s', e'⟩ := hp
    obtain ⟨F2, s2, x2⟩ := hw F' a' w' s'
    exact ⟨F2, e2, h2, ms, hd, hm.ext x2, hb, hk, s2, e'.trans x2⟩
  | exit id => exact hp
  | ret => exact hp
  | goto l => exact hp.elim
  | panic c => exact hp.elim
  | outgrown => exact hp.elim
/-- The statement 'for .. := range g': each round leads from a state of the family G to a next one. -/
theorem aRangeFunc0 {g : Operand} {ps : Array Nat} {assign body : Code} {gf : FuncId} {caps : List AV} {Nx : List (List AV) → List AV → Prop} {E : List (List AV) → Prop} {hit : List HA} (G : α → List HA) (J : List (List AV) → α → Prop) (t0 : α)
    (hg : ev env g = some (.fn (.func gf) caps)) (hpn : ∀ p ∈ ps.toList, p < N) (it : IterT P gf caps Nx E hit) (hlen : ∀ pre x, Nx pre x → x.length = ps.toList.length) (j0 : J [] t0)
    (h1 : ∀ pre x t, Nx pre x → J pre t → AWP P N assign (zipEnv ps.toList x env) (G t) (fun env' h' => AWP P N body env' h' (fun env2 h2 => ∃ t', J (pre ++ [x]) t' ∧ Weak N env2 h2 [] (G t')) (outX env hit X) (fun _ h2 => Rt env (hit ++ h2))) [] (fun _ _ => False))
    (h2 : ∀ xs t, E xs → J xs t → K env (hit ++ G t)) : AWP P N (.rangeFunc g ps assign body) env (hit ++ G t0) K X Rt := by
  intro ro F a w kro s
  have enter : ∀ fn, ∃ (l : Nat) (ms : List Nat) (d0 : Nat) (w1 : World), (Instr.enterLoop fn a.tmps ps assign body ro).run P w = .ok (l, ms.map mark) w1 ∧
      w1.heap[l]? = some (.loop { state := .ready, pending := none, fn, tmps := a.tmps, params := ps, assign, body, defers := d0 }) ∧ w.heap.size ≤ l ∧ (∀ b, b < w.heap.size → w1.heap[b]? = w.heap[b]?) ∧ (w1.os = w.os ∧ w1.output = w.output ∧ w1.tape = w.tape ∧ w.drawn ≤ w1.drawn) ∧ w.heap.size ≤ w1.heap.size ∧
      ms.Nodup ∧ ∀ D ∈ ms, w.heap.size ≤ D ∧ D ≠ l ∧ w1.heap[D]? = some (.deferred (some [])) := by
    intro fn
    cases ro with
    | none =>
      refine ⟨_, [w.heap.size], w.heap.size, _, run_enterLoop_outer _ _ _ _ _, ?_, by omega, fun b hb => ?_, ⟨rfl, rfl, rfl, Nat.le_refl _⟩, ?_, by simp, fun D hD => ?_⟩
      · have := World.alloc_heap_new (w.alloc (.deferred (some []))) (.loop { state := .ready, pending := none, fn, tmps := a.tmps, params := ps, assign, body, defers := w.heap.size }); rwa [World.size_alloc] at this
      · rw [heap_old _ _ b (by simp; omega), heap_old _ _ b hb]
      · simp; omega
      · simp only [List.mem_singleton] at hD
        subst hD
        exact ⟨Nat.le_refl _, by omega, by rw [heap_old _ _ _ (by simp)]; exact heap_new _ _⟩
    | some l0 =>
      obtain ⟨⟨r, hr⟩, _⟩ := kro l0 rfl
      refine ⟨_, [], r.defers, _, run_enterLoop_inner hr _ _ _ _ _, heap_new _ _, Nat.le_refl _, fun b hb => heap_old _ _ b hb, ⟨rfl, rfl, rfl, Nat.le_refl _⟩, by simp, by simp, fun D hD => by simp at hD⟩
  refine wpIn_rangeFunc fun fn hfn => ?_
  obtain ⟨l, ms, d0, w1, he, hL, hl, hkeep, ⟨ho1, ho2, ho3, ho4⟩, hsz, hnd, hms⟩ := enter fn
  have hfv := s.ev hg
  generalize hv : a.eval g = v at hfv
  cases hfv with
  | fn _ _ cx hcl hcr =>
  obtain ⟨fnr, hfb, hfn', hbody⟩ := it.1
  have hn' : ¬ fnr.name = "runtime.NumGoroutine" := by simpa using hfn'
  have hb' : ¬ fnr.body = none := fun h => by rw [h] at hbody; cases hbody
  refine ⟨l, ms.map mark, w1, { target := .fn (.func gf) cx, args := #[.func (.yield l) #[] #[]] }, w1, gf, #[.func (.yield l) #[] #[]] ++ cx, w1, he, ?_, fun _ _ => trivial, ?_, fun hh => by simp [Fence.wide] at hh, ?_⟩
  · simp only [resolve, hv]
    simp [go_sem]
  · simp [invoke, callFunc, hfb, hn', hb']
  -- the state ahead of the iterator
  generalize hr0 : ({ state := .ready, pending := none, fn, tmps := a.tmps, params := ps, assign, body, defers := d0 } : Loop) = r0 at hL
  have hlo : l ∉ owns (hit ++ G t0) := fun hm => by have := s.r.lt l hm; omega
  have hlF : ¬ F l := fun hf => by have := (s.r.sep l hf).1; omega
  have hFk : ∀ b, F b → w1.heap[b]? = w.heap[b]? := fun b hb => hkeep b (s.r.sep b hb).1
  have hltl : l < w1.heap.size := (Array.getElem?_eq_some_iff.1 hL).1
  have R1 : R F (.loop l r0 env :: (hit ++ G t0)) w1 := by
    refine ⟨fun y hy => ?_, ?_, fun b hb => ?_, fun b hb => ⟨Nat.lt_of_lt_of_le (s.r.sep b hb).1 hsz, fun hm => ?_⟩⟩
    · rcases List.mem_cons.1 hy with rfl | hy
      · exact ⟨hL, fun k av hk => by subst hr0; exact (s.env k av hk).mono (fun _ h => h) hFk⟩
      · exact (s.r.rep y hy).mono (fun _ h => h) hFk (fun b hb => hkeep b (s.r.lt b (List.mem_flatMap.2 ⟨y, hy, hb⟩)))
    · exact List.nodup_cons.2 ⟨hlo, s.r.nd⟩
    · rcases List.mem_cons.1 (show b ∈ l :: owns (hit ++ G t0) from hb) with rfl | hb
      · exact hltl
      · exact Nat.lt_of_lt_of_le (s.r.lt b hb) hsz
    · rcases List.mem_cons.1 (show b ∈ l :: owns (hit ++ G t0) from hm) with rfl | hm
      · exact hlF hb
      · exact (s.r.sep b hb).2 hm
  have E1 : Ext F (hit ++ G t0) w F (.loop l r0 env :: (hit ++ G t0)) w1 := ⟨ho1, ho2, ho3, hsz, fun b hb _ => hkeep b hb, fun b hb => by
    rcases List.mem_cons.1 (show b ∈ l :: owns (hit ++ G t0) from hb) with rfl | hb
    · exact .inr hl
    · exact .inl hb, fun _ h => h, fun _ h => .inl h, ho4⟩
  have M1 : MarksOk ms F (.loop l r0 env :: (hit ++ G t0)) w1 := ⟨hnd, fun D hD => by
    obtain ⟨a1, a2, a3⟩ := hms D hD
    refine ⟨a3, fun hm => ?_, fun hf => by have := (s.r.sep D hf).1; omega⟩
    rcases List.mem_cons.1 (show D ∈ l :: owns (hit ++ G t0) from hm) with rfl | hm
    · exact a2 rfl
    · have := s.r.lt D hm; omega⟩
  have p1 : (HA.loop l r0 env :: (hit ++ G t0)).Perm (hit ++ (.loop l r0 env :: G t0)) := List.perm_middle.symm
  -- behind the iterator
  have fin : ∀ {F' : Nat → Prop} {r' : Loop} {h2 : List HA} {w' : World}, R F' (hit ++ (.loop l r' env :: h2)) w' → Ext F (hit ++ (.loop l r0 env :: G t0)) w1 F' (hit ++ (.loop l r' env :: h2)) w' → r'.state ≠ .busy →
      (Instr.endLoop l).run P w' = .ok r'.pending (w'.putObj l (.loop { r' with state := .exhausted })) ∧ ∀ {K' : Cont}, K' env (hit ++ h2) →
      GoodM N ⟨F, hit ++ G t0, w, a.defers⟩ K' { a with defers := ms.map mark ++ a.defers } (w'.putObj l (.loop { r' with state := .exhausted })) := by
    intro F' r' h2 w' R2 E2 hnb
    have R3 : R F' (.loop l r' env :: (hit ++ h2)) w' := R2.perm List.perm_middle
    have E3 : Ext F (hit ++ G t0) w F' (.loop l r' env :: (hit ++ h2)) w' := E1.trans ((E2.permL p1.symm).permR List.perm_middle)
    have M3 := M1.ext ((E2.permL p1.symm).permR List.perm_middle)
    have hL3 := R3.loop.1
    have hl3 : l ∉ owns (hit ++ h2) := (List.nodup_cons.1 (show (l :: owns (hit ++ h2)).Nodup from R3.nd)).1
    have hlF3 : ¬ F' l := fun hf => (R3.sep l hf).2 (List.mem_cons_self ..)
    have hoth : ∀ b, b ≠ l → (w'.putObj l (.loop { r' with state := .exhausted })).heap[b]? = w'.heap[b]? := fun b hb => World.putObj_heap_other hb
    have hszp : (w'.putObj l (.loop { r' with state := .exhausted })).heap.size = w'.heap.size := by simp
    have R4 : R F' (hit ++ h2) (w'.putObj l (.loop { r' with state := .exhausted })) :=
      ⟨fun y hy => (R3.rep y (List.mem_cons_of_mem _ hy)).mono (fun _ h => h) (fun b hb => hoth b (fun e => hlF3 (e ▸ hb))) (fun b hb => hoth b (fun e => hl3 (e ▸ List.mem_flatMap.2 ⟨y, hy, hb⟩))), R3.tail.nd,
       fun b hb => by rw [hszp]; exact R3.tail.lt b hb, fun b hb => ⟨by rw [hszp]; exact (R3.tail.sep b hb).1, (R3.tail.sep b hb).2⟩⟩
    have E4 : Ext F (hit ++ G t0) w F' (hit ++ h2) (w'.putObj l (.loop { r' with state := .exhausted })) := by
      have e := E3.tailR
      exact ⟨e.os, e.output, e.tape, by rw [hszp]; exact e.size, fun b hb hn => (hoth b (fun h1 => by omega)).trans (e.keep b hb hn), e.sub, e.mono, e.new, e.dr⟩
    refine ⟨run_endLoop hL3 hnb, fun hk => ⟨F', env, hit ++ h2, ms, rfl, ⟨hnd, fun D hD => ?_⟩, fun D hD => (hms D hD).1, hk, ⟨R4, s.size, fun k av hk => (s.env k av hk).ext s.r E4⟩, E4⟩⟩
    obtain ⟨a1, a2, a3⟩ := M3.2 D hD
    exact ⟨(hoth D (hms D hD).2.1).trans a1, fun hm => a2 (List.mem_cons_of_mem l hm), a3⟩
  -- the iterator
  have T := it.2 l (fun pre hc => ∃ t, J pre t ∧ hc = .loop l r0 env :: G t)
    (fun hc => ∃ c h2, hc = .loop l { r0 with state := .done, pending := some c } env :: h2 ∧ ((c = .ret ∧ Rt env (hit ++ h2)) ∨ ∃ id K0, c = .exit id ∧ look X id = some K0 ∧ K0 env (hit ++ h2)))
    (fun pre x hc hNx ⟨t, hJ, hhc⟩ => by
      subst hhc
      refine (yround (X := X) (Rt := Rt) (hit := hit) (fn := fn) (ps := ps.toList) (assign := assign) (body := body) (C := fun h2 => ∃ t', J (pre ++ [x]) t' ∧ h2 = G t') (by subst hr0; rfl) (by subst hr0; rfl) (by subst hr0; rfl) (by subst hr0; exact s.size) (by subst hr0; rfl) (by subst hr0; rfl) (by subst hr0; rfl) hpn (hlen pre x hNx) ?_).mono ?_
      · refine aMono (h1 pre x t hNx hJ) (fun e1 h3 hb => aPostWeak (aMono hb (fun e2 h4 ⟨t', hj, hw⟩ => ⟨[], G t', hw, t', hj, rfl⟩) (fun _ _ h => h))) (fun _ _ h => h)
      · rintro r h' (⟨rfl, h2, rfl, t', hj, rfl⟩ | ⟨rfl, c, h2, rfl, hc⟩)
        · exact .inl ⟨rfl, t', hj, rfl⟩
        · exact .inr ⟨rfl, c, h2, rfl, hc⟩) (.loop l r0 env :: G t0) ⟨t0, j0, rfl⟩
  have hreps : Reps F w1 (.fn (.yield l) [] :: caps) (#[.func (.yield l) #[] #[]] ++ cx) := by
    refine ⟨by simp [hcl]; omega, fun i av x hi hx => ?_⟩
    cases i with
    | zero =>
      simp only [List.getElem?_cons_zero, Option.some.injEq] at hi
      subst hi
      obtain rfl : Value.func (.yield l) #[] #[] = x := by simpa [Array.getElem?_append] using hx
      exact .fn _ _ _ rfl (fun j av x hj _ => by simp at hj)
    | succ i =>
      simp only [List.getElem?_cons_succ] at hi
      have hx : cx[i]? = some x := by simpa [Array.getElem?_append] using hx
      exact (hcr i av x hi hx).mono (fun _ h => h) hFk
  have C := T.2 F w1 _ (R1.perm p1) hreps
  refine (callsIn_wide (n := 0)).2 (C.mono ?_)
  rintro e w' ⟨r, x, h', F', rfl, ⟨hc', rfl, (⟨xs, hE, t, hj, rfl⟩ | ⟨c, h3, rfl, hc⟩)⟩, hrep, R2, E2⟩
  · obtain ⟨he, hgood⟩ := fin R2 E2 (by subst hr0; simp)
    refine ⟨_, _, he, ?_⟩
    subst hr0
    exact hgood (h2 xs t hE hj)
  · obtain ⟨he, hgood⟩ := fin R2 E2 (by simp)
    refine ⟨_, _, he, ?_⟩
    rcases hc with ⟨rfl, hk⟩ | ⟨id, K0, rfl, hl0, hk⟩
    · exact wpIn_ret (hgood hk)
    · exact wpIn_exit ⟨K0, hl0, hgood hk⟩
theorem aRangeFunc {g : Operand} {ps : Array Nat} {assign body : Code} {gf : FuncId} {caps : List AV} {Nx : List (List AV) → List AV → Prop} {E : List (List AV) → Prop} {hit : List HA} (G : α → List HA) (J : List (List AV) → α → Prop) (t0 : α)
    (hg : ev env g = some (.fn (.func gf) caps)) (hpn : ∀ p ∈ ps.toList, p < N) (it : IterT P gf caps Nx E hit) (hlen : ∀ pre x, Nx pre x → x.length = ps.toList.length) (h0 : Weak N env h env (hit ++ G t0)) (j0 : J [] t0)
    (h1 : ∀ pre x t, Nx pre x → J pre t → AWP P N assign (zipEnv ps.toList x env) (G t) (fun env' h' => AWP P N body env' h' (fun env2 h2 => ∃ t', J (pre ++ [x]) t' ∧ Weak N env2 h2 [] (G t')) (outX env hit X) (fun _ h2 => Rt env (hit ++ h2))) [] (fun _ _ => False))
    (h2 : ∀ xs t, E xs → J xs t → K env (hit ++ G t)) : AWP P N (.rangeFunc g ps assign body) env h K X Rt := aWeak h0 (aRangeFunc0 G J t0 hg hpn it hlen j0 h1 h2)
end
end A
end Go.Proofs.Ytnabkchagjjjnaa
set_option linter.unusedVariables false
set_option linter.unusedSimpArgs false
namespace Go.Proofs.Ytnabkchagjjjnaa
namespace A
variable {P : Program} {N : Nat} {env : Env} {h : List HA} {K : Cont} {X : List (Nat × Cont)} {Rt : Cont}
theorem spl_last {x : HA} : ∀ {l : List HA}, Spl (l ++ [x]) x l
  | [] => .hd
  | _ :: _ => .tl spl_last
theorem tk_refl : ∀ {h : List HA}, Tk h h []
  | [] => .nil
  | _ :: _ => .cons .hd tk_refl
theorem weak_env {env' : Env} (he : EnvSub env env') : Weak N env h env' h := weak_sub he tk_refl
theorem YTriple.bool {l : Nat} {x : List AV} {A B : List HA → Prop} (t : YTriple P l x h (fun r h' => (r = .bool true ∧ A h') ∨ (r = .bool false ∧ B h'))) :
    YTriple P l x h (fun r h' => ∃ v : Bool, r = .v (.bool v) ∧ (v = true → A h') ∧ (v = false → B h')) := t.mono fun r h' hq => by
  rcases hq with ⟨rfl, ha⟩ | ⟨rfl, hb⟩
  · exact ⟨true, rfl, fun _ => ha, fun h => by cases h⟩
  · exact ⟨false, rfl, (fun h => by cases h), fun _ => hb⟩
open Go.Proofs.YtnabkchagjjjnaaW.PrintLast (wpAnyLast one_ two_ three_ readyB readyT)
def WantT (N : Nat) (ops : Array Oper) (o : Oper) (env : Env) (h : List HA) : Prop := ∀ F a w, Sat N F env h a w → Region.wanted o (yielded ops a.tmps) = true
theorem wantN {ops : Array Oper} {o : Oper} (hg : o.guard = none) : WantT N ops o env h := fun _ _ _ _ => by simp [Region.wanted, hg]
def AStep (P : Program) (N : Nat) (ops : Array Oper) (ds : List Nat) (n : Nat) (l' : Array Bool) (o : Oper) (E0 : Env) (h0 : List HA) (env : Env) (h : List HA) (K : Cont) (X : List (Nat × Cont)) (Rt : Cont) : Prop :=
  ∀ (B : Base) F0 w0 F a w, Sat N F0 E0 h0 a w0 → Sat N F env h a w → Ext B.F B.h B.w F h w → a.defers = B.D → (∀ b, F0 b → F b) → (∀ b ∈ owns h0, b ∈ owns h ∨ F b) → Agree F0 h0 w0 w →
    ∀ K' : Act → World → Prop, Shut (∀ a' w', Agree F0 h0 w0 w' → (Agree F0 h0 w0 w' → wpAnyLast P .any ops (PostOf N B K X Rt) (Agree F0 h0 w0) ds n l' a' w') → K' a' w') →
      if Region.wanted o (yielded ops a.tmps) = true then Oper.wp P o a w K' (PostOf N B K X Rt) else K' (a.put o.dst undef) w
theorem stQ {ops : Array Oper} {ds : List Nat} {n : Nat} {o : Oper} {l' : Array Bool} {E0 : Env} {h0 : List HA} (hw : WantT N ops o env h) (hN : ∀ t, o.dst = some t → t < N)
    (hk : AOpQ P N o env h (fun env' h' => ADraw2 P N ops ds n l' (match o.dst with | some t => del t E0 | none => E0) h0 env' h' K X Rt)) : AStep P N ops ds n l' o E0 h0 env h K X Rt := by
  intro B F0 w0 F a w s0 s e hdef hF hO hS K' hK'
  rw [if_pos (hw F a w s)]
  refine Oper.wp_mono ?_ (puts o a w _ _ (hk B F a w _ s e hdef))
  intro a' w' ⟨⟨hd', F', env', h', hk', s', e', hag, hF', hO'⟩, x, D, ha⟩
  have hS' : Agree F0 h0 w0 w' := fun b hb => by
    rw [hag b (by rcases hb with hb | hb; exact .inl (hF b hb); exact (hO b hb).symm), hS b hb]
  refine hK'.out a' w' hS' (fun _ => hk' B F0 w0 F' a' w' (s0.delD hN ha) s' e' hd' (fun b hb => hF' b (hF b hb)) (fun b hb => ?_) hS')
  rcases hO b hb with h1 | h1
  · exact hO' b h1
  · exact .inr (hF' b h1)
/-- An operation that changes what is no part of what stood at the start. -/
theorem stA {ops : Array Oper} {ds : List Nat} {n : Nat} {o : Oper} {l' : Array Bool} {E0 : Env} {h0 hx rest r0 : List HA} (hw : WantT N ops o env h) (hN : ∀ t, o.dst = some t → t < N) (ht : Tk h hx rest) (ht0 : Tk rest h0 r0)
    (hk : AOp P N o env hx (fun env' h' => ADraw2 P N ops ds n l' (match o.dst with | some t => del t E0 | none => E0) h0 env' (h' ++ rest) K X Rt)) : AStep P N ops ds n l' o E0 h0 env h K X Rt := by
  intro B F0 w0 F a w s0 s e hdef hF hO hS K' hK'
  rw [if_pos (hw F a w s)]
  have rp := s.r.perm ht.perm
  have hnd : (owns hx ++ owns rest).Nodup := by rw [← owns_append]; exact rp.nd
  refine Oper.wp_mono ?_ (puts o a w _ _ (hk ⟨F, hx, w, a.defers⟩ F a w _ ⟨s.r.sub ht, s.size, s.env⟩ (.refl F hx w) rfl))
  intro a' w' ⟨⟨hd', F', env', h', hk', s', e'⟩, x, D, ha⟩
  obtain ⟨R2, E2⟩ := rp.frame s'.r e'
  have hrest : ∀ b ∈ owns h0, b ∈ owns rest := fun b hb => (owns_perm ht0.perm).mem_iff.2 (by rw [owns_append]; exact List.mem_append_left _ hb)
  have hS' : Agree F0 h0 w0 w' := fun b hb => by
    have hk1 : w'.heap[b]? = w.heap[b]? := by
      rcases hb with hb | hb
      · exact e'.keep b (s.r.sep b (hF b hb)).1 (fun hm => (s.r.sep b (hF b hb)).2 ((owns_perm ht.perm).mem_iff.2 (by rw [owns_append]; exact List.mem_append_left _ hm)))
      · exact e'.keep b (rp.lt b (by rw [owns_append]; exact List.mem_append_right _ (hrest b hb))) (fun hm => (List.nodup_append.1 hnd).2.2 b hm b (hrest b hb) rfl)
    rw [hk1, hS b hb]
  refine hK'.out a' w' hS' (fun _ => hk' B F0 w0 F' a' w' (s0.delD hN ha) ⟨R2, s'.size, s'.env⟩ (e.trans (E2.permL ht.perm.symm)) (hd'.trans hdef) (fun b hb => e'.mono b (hF b hb)) (fun b hb => .inl (by rw [owns_append]; exact List.mem_append_right _ (hrest b hb))) hS')
theorem eOneS {ops : Array Oper} {ds : List Nat} {n i : Nat} {o : Oper} {l : Array Bool} {E0 : Env} {h0 : List HA} (l' : Array Bool) (hi : ops[i]? = some o) (hc : readyB .any ops l l' i = true) (hd : i ∉ ds)
    (hk : AStep P N ops ds n l' o E0 h0 env h K X Rt) : ADraw2 P N ops ds (n + 1) l E0 h0 env h K X Rt := by
  intro B F0 w0 F a w s0 s e hdef hF hO hS
  exact one_ l' hi rfl hc hd (fun K' hK' => hk B F0 w0 F a w s0 s e hdef hF hO hS K' hK')
theorem eTwoS {ops : Array Oper} {ds : List Nat} {n i j : Nat} {oi oj : Oper} {l : Array Bool} {E0 : Env} {h0 : List HA} (li lj : Array Bool) (hi : ops[i]? = some oi) (hj : ops[j]? = some oj) (hc : (Region.ready .any ops l == [i, j] && l.setIfInBounds i true == li && l.setIfInBounds j true == lj) = true) (hdi : i ∉ ds) (hdj : j ∉ ds)
    (hki : AStep P N ops ds n li oi E0 h0 env h K X Rt) (hkj : AStep P N ops ds n lj oj E0 h0 env h K X Rt) : ADraw2 P N ops ds (n + 1) l E0 h0 env h K X Rt := by
  intro B F0 w0 F a w s0 s e hdef hF hO hS
  exact two_ li lj hi hj rfl rfl hc hdi hdj (fun K' hK' => hki B F0 w0 F a w s0 s e hdef hF hO hS K' hK') (fun K' hK' => hkj B F0 w0 F a w s0 s e hdef hF hO hS K' hK')
theorem eThreeS {ops : Array Oper} {ds : List Nat} {n i j k : Nat} {oi oj ok : Oper} {l : Array Bool} {E0 : Env} {h0 : List HA} (li lj lk : Array Bool) (hi : ops[i]? = some oi) (hj : ops[j]? = some oj) (hk : ops[k]? = some ok) (hc : (Region.ready .any ops l == [i, j, k] && l.setIfInBounds i true == li && l.setIfInBounds j true == lj && l.setIfInBounds k true == lk) = true) (hdi : i ∉ ds) (hdj : j ∉ ds) (hdk : k ∉ ds)
    (hki : AStep P N ops ds n li oi E0 h0 env h K X Rt) (hkj : AStep P N ops ds n lj oj E0 h0 env h K X Rt) (hkk : AStep P N ops ds n lk ok E0 h0 env h K X Rt) : ADraw2 P N ops ds (n + 1) l E0 h0 env h K X Rt := by
  intro B F0 w0 F a w s0 s e hdef hF hO hS
  exact three_ li lj lk hi hj hk rfl rfl rfl hc hdi hdj hdk (fun K' hK' => hki B F0 w0 F a w s0 s e hdef hF hO hS K' hK') (fun K' hK' => hkj B F0 w0 F a w s0 s e hdef hF hO hS K' hK') (fun K' hK' => hkk B F0 w0 F a w s0 s e hdef hF hO hS K' hK')
open Go.Proofs.YtnabkchagjjjnaaW.PrintLast (ready_eq set_of)
theorem Tab.two {ops : Array Oper} {T : Bool × List (List Nat × List Nat)} {Bs : List Nat} {l li lj : Array Bool} {i j : Nat} (t : Tab ops T Bs) (h : (readyT T.2 l.toList == [i, j] && l.toList.set i true == li.toList && l.toList.set j true == lj.toList) = true) :
    (Region.ready .any ops l == [i, j] && l.setIfInBounds i true == li && l.setIfInBounds j true == lj) = true := by
  have hT := t.t
  subst hT
  simp only [Bool.and_eq_true] at h ⊢
  exact ⟨⟨by rw [ready_eq]; exact h.1.1, set_of h.1.2⟩, set_of h.2⟩
theorem Tab.three {ops : Array Oper} {T : Bool × List (List Nat × List Nat)} {Bs : List Nat} {l li lj lk : Array Bool} {i j k : Nat} (t : Tab ops T Bs) (h : (readyT T.2 l.toList == [i, j, k] && l.toList.set i true == li.toList && l.toList.set j true == lj.toList && l.toList.set k true == lk.toList) = true) :
    (Region.ready .any ops l == [i, j, k] && l.setIfInBounds i true == li && l.setIfInBounds j true == lj && l.setIfInBounds k true == lk) = true := by
  have hT := t.t
  subst hT
  simp only [Bool.and_eq_true] at h ⊢
  exact ⟨⟨⟨by rw [ready_eq]; exact h.1.1.1, set_of h.1.1.2⟩, set_of h.1.2⟩, set_of h.2⟩
end A
end Go.Proofs.Ytnabkchagjjjnaa
