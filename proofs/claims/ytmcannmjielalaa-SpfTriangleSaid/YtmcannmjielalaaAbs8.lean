/- Appends and element stores as operations; lending; letting go. Over any program. -/
import Derived.Test.YtmcannmjielalaaAbs7
set_option linter.unusedVariables false
set_option linter.unusedSimpArgs false
namespace Go.Proofs.Ytmcannmjielalaa
namespace A

variable {P : Program} {N : Nat} {env : Env} {h : List HA} {K : Cont} {X : List (Nat × Cont)} {Rt : Cont}

/-- All that an element type is, for appends: cells, bytes, nought. -/
def elemOf (P : Program) (t : TypeId) : Option (TypeId × Nat × Nat) :=
  match P.underlying t with
  | some (.slice e) => match P.info? e with
    | some i => match i.zero with
      | some z => if z.cells.size = i.size ∧ 0 < i.size then some (e, i.size, i.bytes) else none
      | none => none
    | none => none
  | _ => none
theorem elemOf_spec {t e : TypeId} {sz by_ : Nat} (he : elemOf P t = some (e, sz, by_)) : P.underlying t = some (.slice e) ∧ ∃ i z, P.info? e = some i ∧ i.zero = some z ∧ i.size = sz ∧ z.cells.size = sz ∧ 0 < sz ∧ i.bytes = by_ := by
  unfold elemOf at he
  cases hu : P.underlying t with
  | none => rw [hu] at he; simp at he
  | some d =>
    rw [hu] at he
    cases d with
    | slice e' =>
      simp only at he
      cases hi : P.info? e' with
      | none => rw [hi] at he; simp at he
      | some i =>
        rw [hi] at he
        simp only at he
        cases hz : i.zero with
        | none => rw [hz] at he; simp at he
        | some z =>
          rw [hz] at he
          simp only at he
          split at he
          · rename_i hc
            simp only [Option.some.injEq, Prod.mk.injEq] at he
            obtain ⟨rfl, rfl, rfl⟩ := he
            exact ⟨rfl, i, z, hi, hz, rfl, hc.1, hc.2, rfl⟩
          · simp at he
    | _ => simp at he

theorem R.appended {F : Nat → Prop} {w w' : World} {g g' : Option Nat} {c c' : Nat} {e sz : Nat} {es ns : List (List AV)} {h' : List HA} (r : R F h w) (hs : Spl h (.sl g c e sz es) h') {xs news : List Value}
    (ho : w'.ownsRow 0 e sz (slV g' (es.length + ns.length) c') (es.length + ns.length) (xs ++ news)) (hxl : xs.length = es.length * sz) (hz : ∀ y ∈ es ++ ns, y.length = sz) (h1 : ∀ x ∈ xs ++ news, x.oneCell' = true)
    (hre : ∀ (i j : Nat) y av x, es[i]? = some y → y[j]? = some av → xs[i * sz + j]? = some x → Rep F w av x) (hrn : ∀ (i j : Nat) y av x, ns[i]? = some y → y[j]? = some av → news[i * sz + j]? = some x → Rep F w av x)
    (hos : w'.os = w.os) (hout : w'.output = w.output) (htp : w'.tape = w.tape) (hsz : w.heap.size ≤ w'.heap.size) (hg : ∀ b, g' = some b → g = some b ∨ b = w.heap.size ∧ w'.heap.size = w.heap.size + 1) (hk : ∀ b, b < w.heap.size → g ≠ some b → w'.heap[b]? = w.heap[b]?) (hdr : w.drawn ≤ w'.drawn) :
    R F (.sl g' c' e sz (es ++ ns) :: h') w' ∧ Ext F h w F (.sl g' c' e sz (es ++ ns) :: h') w' := by
  have hp := hs.perm
  have r1 := r.perm hp
  have hnd : ((HA.sl g c e sz es).own ++ owns h').Nodup := by have := r1.nd; rwa [owns_cons] at this
  have hgo : ∀ b, g = some b → b ∈ (HA.sl g c e sz es).own := fun b hb => by subst hb; simp [HA.own]
  have hgo' : ∀ b, b ∈ (HA.sl g' c' e sz (es ++ ns)).own → g' = some b := fun b hb => by cases g' <;> simp [HA.own] at hb; rw [hb]
  have hset : ∀ b, F b → w'.heap[b]? = w.heap[b]? := fun b hb => hk b (r.sep b hb).1 (fun e => (r.sep b hb).2 ((owns_perm hp).mem_iff.2 (by simp [hgo b e])))
  have hfr : ∀ b ∈ owns h', w'.heap[b]? = w.heap[b]? := fun b hb => hk b (r1.lt b (by simp [hb])) (fun e => (List.nodup_append.1 hnd).2.2 b (hgo b e) b hb rfl)
  refine ⟨⟨fun y hy => ?_, ?_, ?_, ?_⟩, Ext.permL hp.symm ⟨hos, hout, htp, hsz, fun b hb hn => hk b hb (fun e => hn (by simp [hgo b e])), ?_, fun _ h => h, fun _ h => .inl h, hdr⟩⟩
  · rcases List.mem_cons.1 hy with rfl | hy
    · refine ⟨xs ++ news, by rw [List.length_append]; exact ho, hz, h1, fun i j y av x hi hj hx => ?_⟩
      by_cases hlt : i < es.length
      · rw [List.getElem?_append_left hlt] at hi
        have hjl : j < sz := by rw [← hz y (List.mem_append_left _ (List.mem_of_getElem? hi))]; exact (List.getElem?_eq_some_iff.1 hj).1
        rw [List.getElem?_append_left (by rw [hxl]; exact idx_lt hlt hjl)] at hx
        exact (hre i j y av x hi hj hx).mono (fun _ h => h) hset
      · have hge : es.length ≤ i := by omega
        rw [List.getElem?_append_right hge] at hi
        have hle : es.length * sz ≤ i * sz := Nat.mul_le_mul_right _ hge
        rw [List.getElem?_append_right (by rw [hxl]; omega), hxl] at hx
        refine (hrn (i - es.length) j y av x hi hj ?_).mono (fun _ h => h) hset
        rw [Nat.sub_mul]
        rwa [show i * sz + j - es.length * sz = i * sz - es.length * sz + j by omega] at hx
    · exact (r1.rep y (by simp [hy])).mono (fun _ h => h) hset (fun b hb => hfr b (List.mem_flatMap.2 ⟨y, hy, hb⟩))
  · rw [owns_cons]
    refine List.nodup_append.2 ⟨by cases g' <;> simp [HA.own], (List.nodup_append.1 hnd).2.1, ?_⟩
    rintro b hb d hd rfl
    rcases hg b (hgo' b hb) with h2 | h2
    · exact (List.nodup_append.1 hnd).2.2 b (hgo b h2) b hd rfl
    · have := r1.lt b (by simp [hd]); omega
  · intro b hb
    rw [owns_cons] at hb
    rcases List.mem_append.1 hb with hb | hb
    · rcases hg b (hgo' b hb) with h2 | h2
      · have := r1.lt b (by simp [hgo b h2]); omega
      · omega
    · have := r1.lt b (by simp [hb]); omega
  · intro b hb
    have h2 := r1.sep b hb
    rw [owns_cons] at h2 ⊢
    refine ⟨by omega, fun hm => ?_⟩
    rcases List.mem_append.1 hm with hm | hm
    · rcases hg b (hgo' b hm) with h3 | h3
      · exact h2.2 (List.mem_append_left _ (hgo b h3))
      · omega
    · exact h2.2 (List.mem_append_right _ hm)
  · intro b hb
    rw [owns_cons] at hb
    rcases List.mem_append.1 hb with hb | hb
    · rcases hg b (hgo' b hb) with h3 | h3
      · exact .inl (by simp [hgo b h3])
      · exact .inr (by omega)
    · exact .inl (by simp [hb])

/-- What stands behind an append: a slice that may be settled, or one of the call's own. -/
def SrcIs (env : Env) (h : List HA) (y : Operand) (sz : Nat) (ns : List (List AV)) : Prop :=
  ev env y = some (.sl sz ns) ∨ ∃ g c e, ev env y = some (.v (slV g ns.length c)) ∧ HA.sl g c e sz ns ∈ h

theorem srcSl {y : Operand} {sz : Nat} {ns : List (List AV)} (hy : ev env y = some (.sl sz ns)) : SrcIs env h y sz ns := .inl hy
theorem srcOwn {y : Operand} {sz n c : Nat} {g : Option Nat} {e : TypeId} {ns : List (List AV)} {h' : List HA} (hy : ev env y = some (.v (slV g n c))) (hs : Spl h (.sl g c e sz ns) h') (hn : n = ns.length) : SrcIs env h y sz ns := .inr ⟨g, c, e, hn ▸ hy, spl_mem hs⟩

theorem oApp {o : Oper} {t t' e : TypeId} {x y : Operand} {sz by_ d n c : Nat} {g : Option Nat} {es ns : List (List AV)} {h' : List HA} (ho : o.op = .call ⟨.builtin .append, #[x, y], #[t, t']⟩) (hd : o.dst = some d) (hN : d < N) (hx : ev env x = some (.v (slV g n c))) (hs : Spl h (.sl g c e sz es) h') (hn : n = es.length)
    (hy : SrcIs env h y sz ns) (ht : elemOf P t = some (e, sz, by_)) (ht' : isSl P t' = true) (hz : ∀ z ∈ ns, z.length = sz) (hb1 : es.length + ns.length ≤ 9223372036854775807) (hb2 : (es.length + ns.length) * by_ ≤ 140737488355328)
    (hk : ∀ g' c', K ((d, .v (slV g' (es.length + ns.length) c')) :: env) (.sl g' c' e sz (es ++ ns) :: h')) : AOp P N o env h K := by
  subst hn
  intro B F a w Q s ex hdef
  obtain ⟨hu, i, z, hi, hzz, hisz, hzs, h0, hby⟩ := elemOf_spec ht
  obtain ⟨e', hu'⟩ := isSl_spec ht'
  obtain ⟨xs, hown, hxz, hx1, hxr⟩ := s.r.rep _ (spl_mem hs)
  have hxv := s.ev hx
  generalize hv : a.eval x = v at hxv
  cases hxv
  have hsrc : ∃ news : List Value, Src P sz t' (a.eval y) ns.length news w ∧ ∀ (i j : Nat) y av v, ns[i]? = some y → y[j]? = some av → news[i * sz + j]? = some v → Rep F w av v := by
    rcases hy with hy | ⟨g2, c2, e2, hy, hm⟩
    · exact src_sl (h := h) hu' (s.ev hy)
    · have hyv := s.ev hy
      generalize hv2 : a.eval y = v2 at hyv
      cases hyv
      exact src_own (h := h) hu' (s.r.rep _ hm)
  obtain ⟨news, hsr, hrn⟩ := hsrc
  obtain ⟨g', c', w', hrun, ho', hos, hout, htp, hsz, hg, hkp, hdr⟩ := run_appendO (P := P) (ty := o.type) hu hi hzz hisz hzs h0 hown hsr (by omega) (by rw [hby]; exact hb2)
  obtain ⟨hR, hE⟩ := s.r.appended hs ho' hown.1 (fun y hy => (List.mem_append.1 hy).elim (hxz y) (hz y)) (fun x hx => (List.mem_append.1 hx).elim (hx1 x) (hsr.one x)) hxr hrn hos hout htp hsz hg hkp hdr
  have hrun2 : (execOp a.eval o).run P w = .ok (.value (slV g' (es.length + ns.length) c')) w' := by
    simp only [execOp, ho, resolve, Sem.run_bind, Sem.run_pure, Result.andThen_ok, invoke, builtin]
    simp only [List.map_toArray, List.map_cons, List.map_nil, hv, hrun, Result.andThen_ok]
  unfold Oper.wp
  rw [hrun2, Oper.upon_value, hd]
  exact ⟨hdef, F, _, _, hk g' c', s.put hE hR hN (.v _), ex.trans hE⟩

/-! ### Letting go -/
theorem weak_refl : Weak N env h env h := fun F a w s => ⟨F, s, .refl F h w⟩

def EnvSub (env : Env) : Env → Prop
  | [] => True
  | (k, av) :: t => get env k = some av ∧ EnvSub env t

theorem EnvSub.get {env : Env} : ∀ {env' : Env} {k : Nat} {av : AV}, EnvSub env env' → A.get env' k = some av → A.get env k = some av
  | [], k, av, _, h => by simp [A.get] at h
  | (j, aw) :: t, k, av, hs, h => by
    simp only [A.get] at h
    by_cases hjk : j = k
    · subst hjk
      have : Nat.beq j j = true := by simp
      rw [this] at h
      simp only [cond_true, Option.some.injEq] at h
      subst h
      exact hs.1
    · rw [beq_no hjk] at h
      exact hs.2.get h

/-- Some slots, some of what is owned. -/
theorem weak_sub {env' : Env} {h' r : List HA} (he : EnvSub env env') (hh : Tk h h' r) : Weak N env h env' h' := fun F a w s =>
  ⟨F, ⟨s.r.sub hh, s.size, fun k av hk => s.env k av (he.get hk)⟩, ⟨rfl, rfl, rfl, Nat.le_refl _, fun _ _ _ => rfl, fun b hb => .inl ((owns_perm hh.perm).mem_iff.2 (by rw [owns_append]; exact List.mem_append_left _ hb)), fun _ h => h, fun _ h => .inl h, Nat.le_refl _⟩⟩

theorem Weak.trans {env1 env2 : Env} {h1 h2 : List HA} (a : Weak N env h env1 h1) (b : Weak N env1 h1 env2 h2) : Weak N env h env2 h2 := fun F x w s =>
  let ⟨F1, s1, e1⟩ := a F x w s; let ⟨F2, s2, e2⟩ := b F1 x w s1; ⟨F2, s2, e1.trans e2⟩

/-- A nil slice is one of the call's own, with nothing in it. -/
theorem weak_nil (e : TypeId) (sz : Nat) : Weak N env h env (.sl none 0 e sz [] :: h) := fun F a w s =>
  ⟨F, ⟨⟨fun x hx => by
    rcases List.mem_cons.1 hx with rfl | hx
    · exact ⟨[], World.ownsRow_nil w 0 e sz, fun y hy => by simp at hy, fun y hy => by simp at hy, fun i j y av x hi => by simp at hi⟩
    · exact s.r.rep x hx, by simpa [HA.own] using s.r.nd, by simpa [HA.own] using s.r.lt, by simpa [HA.own] using s.r.sep⟩, s.size, s.env⟩, ⟨rfl, rfl, rfl, Nat.le_refl _, fun _ _ _ => rfl, fun b hb => .inl (by simpa [HA.own] using hb), fun _ h => h, fun _ h => .inl h, Nat.le_refl _⟩⟩

/-- A slice of the call's own is not written any more: each slot that holds it reads as a settled slice. -/
def settleEnv (g : Option Nat) (n c sz : Nat) (es : List (List AV)) (ks : List Nat) : Env → Env
  | [] => []
  | (k, av) :: t => (k, if k ∈ ks then .sl sz es else av) :: settleEnv g n c sz es ks t

theorem own_settled {F F' : Nat → Prop} {w : World} {g : Option Nat} {c e sz : Nat} {es : List (List AV)} (hr : HARep F w (.sl g c e sz es)) (hF : ∀ b, F b → F' b) (hg : ∀ b, g = some b → F' b) : Rep F' w (.sl sz es) (slV g es.length c) := by
  cases g with
  | none =>
    obtain ⟨xs, ⟨h1, h2⟩, _⟩ := hr
    have hn : es.length = 0 := by
      rcases h2 with ⟨_, h⟩ | ⟨b, _, _, h, _⟩
      · exact h
      · simp [slV] at h
    have he : es = [] := List.eq_nil_of_length_eq_zero hn
    subst he
    exact .sl0 _ _ _
  | some b =>
    have hr0 := hr
    obtain ⟨xs0, ⟨hl0, h0⟩, _⟩ := hr0
    have hc : es.length ≤ c := by
      rcases h0 with ⟨h, _⟩ | ⟨b', cap, cur, hv, _, _, hnc, _⟩
      · simp [slV] at h
      · simp [slV] at hv; omega
    obtain ⟨xs, h1, h2, h3, h4, h5⟩ := own_cells hr
    have hlt : ∀ i j, i < es.length → j < sz → xs[i * sz + j]? = some (xs.getD (i * sz + j) undef) := fun i j hi hj => by
      have : i * sz + j < xs.length := by rw [h1]; exact idx_lt hi hj
      simp [this]
    exact .sl sz es b 0 c (fun i j => xs.getD (i * sz + j) undef) (hg b rfl) hc h2 (fun i j hi hj => by rw [Nat.zero_add]; exact h4 _ _ (hlt i j hi hj)) (fun i j hi hj => h3 _ (List.mem_of_getElem? (hlt i j hi hj)))
      (fun i j y av hi hj => (h5 i j y av _ hi hj (hlt i j (List.getElem?_eq_some_iff.1 hi).1 (by rw [← h2 y (List.mem_of_getElem? hi)]; exact (List.getElem?_eq_some_iff.1 hj).1))).mono hF (fun _ _ => rfl))

theorem weak_settle {k n c e sz : Nat} {g : Option Nat} {es : List (List AV)} {h' : List HA} (hk : get env k = some (.v (slV g n c))) (hs : Spl h (.sl g c e sz es) h') (hn : n = es.length) : Weak N env h ((k, .sl sz es) :: env) h' := fun F a w s => by
  subst hn
  have r1 := s.r.perm hs.perm
  have hr := r1.rep (.sl g c e sz es) (by simp)
  have hF' : ∀ b, F b → (F b ∨ g = some b) := fun b hb => .inl hb
  have hgo : ∀ b, g = some b → b ∈ (HA.sl g c e sz es).own := fun b hb => by subst hb; simp [HA.own]
  have hnd := r1.nd
  rw [owns_cons] at hnd
  refine ⟨fun b => F b ∨ g = some b, ⟨⟨fun x hx => (r1.rep x (by simp [hx])).mono hF' (fun _ _ => rfl) (fun _ _ => rfl), (List.nodup_append.1 hnd).2.1, fun b hb => r1.lt b (by simp [hb]), fun b hb => ?_⟩, s.size, fun j av hj => ?_⟩, ⟨rfl, rfl, rfl, Nat.le_refl _, fun _ _ _ => rfl, fun b hb => .inl ((owns_perm hs.perm).mem_iff.2 (by simp [hb])), hF', fun b hb => hb.imp id (fun e => .inl ((owns_perm hs.perm).mem_iff.2 (by simp [hgo b e]))), Nat.le_refl _⟩⟩
  · rcases hb with hb | hb
    · have := r1.sep b hb; rw [owns_cons] at this; exact ⟨this.1, fun hm => this.2 (List.mem_append_right _ hm)⟩
    · exact ⟨r1.lt b (by simp [hgo b hb]), fun hm => (List.nodup_append.1 hnd).2.2 b (hgo b hb) b hm rfl⟩
  · by_cases hkj : k = j
    · subst hkj
      have : Nat.beq k k = true := by simp
      simp only [A.get, this, cond_true, Option.some.injEq] at hj
      subst hj
      have hv := s.env k _ hk
      generalize hq : a.tmps.getD k undef = v at hv
      cases hv
      exact own_settled hr hF' (fun b hb => .inr hb)
    · simp only [A.get, beq_no hkj, cond_false] at hj
      exact (s.env j av hj).mono hF' (fun _ _ => rfl)

end A
end Go.Proofs.Ytmcannmjielalaa
