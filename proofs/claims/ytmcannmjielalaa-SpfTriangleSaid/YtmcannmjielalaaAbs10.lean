/- Maps with int keys: made, written, asked; of the call's own. Over any program. -/
import Derived.Test.YtmcannmjielalaaAbs9
set_option linter.unusedVariables false
set_option linter.unusedSimpArgs false
namespace Go.Proofs.Ytmcannmjielalaa
namespace A

variable {P : Program} {N : Nat} {env : Env} {h : List HA} {K : Cont} {X : List (Nat × Cont)} {Rt : Cont}

def kvGet : List (Int × AV) → Int → Option AV
  | [], _ => none
  | (k, v) :: t, n => if n = k then some v else kvGet t n
def kvPut : List (Int × AV) → Int → AV → List (Int × AV)
  | [], n, v => [(n, v)]
  | (k, u) :: t, n, v => if n = k then (n, v) :: t else (k, u) :: kvPut t n v
def kvDel : List (Int × AV) → Int → List (Int × AV)
  | [], _ => []
  | (k, u) :: t, n => if n = k then t else (k, u) :: kvDel t n

/-- A map type's key is an int, and its elements' nought. -/
def mapOf (P : Program) (t : TypeId) : Option (TypeId × TypeId) :=
  match P.underlying t with
  | some (.map k e) => match P.underlying k with
    | some (.int .i64) => some (k, e)
    | _ => none
  | _ => none
theorem mapOf_spec {t k e : TypeId} (hm : mapOf P t = some (k, e)) : P.underlying t = some (.map k e) ∧ P.underlying k = some (.int .i64) := by
  unfold mapOf at hm
  cases hu : P.underlying t with
  | none => rw [hu] at hm; simp at hm
  | some d =>
    rw [hu] at hm
    cases d with
    | map k' e' =>
      simp only at hm
      cases hk : P.underlying k' with
      | none => rw [hk] at hm; simp at hm
      | some d =>
        rw [hk] at hm
        cases d with
        | int ik => cases ik <;> simp at hm; obtain ⟨rfl, rfl⟩ := hm; exact ⟨rfl, hk⟩
        | _ => simp at hm
    | _ => simp at hm

/-- The entries, as a list of numbers and what is known of the elements. -/
def Ents (F : Nat → Prop) (w : World) (clock : Nat) : List MapEntry → List (Int × AV) → Prop
  | [], [] => True
  | e :: es, kv :: t => (e.key = .int .i64 kv.1 ∧ Rep F w kv.2 e.val ∧ e.born < clock) ∧ Ents F w clock es t
  | _, _ => False

theorem ents_of {F : Nat → Prop} {w : World} {clock : Nat} : ∀ (es : List MapEntry) (kvs : List (Int × AV)), es.length = kvs.length →
    (∀ (i : Nat) kv e, kvs[i]? = some kv → es[i]? = some e → e.key = .int .i64 kv.1 ∧ Rep F w kv.2 e.val ∧ e.born < clock) → Ents F w clock es kvs
  | [], [], _, _ => trivial
  | e :: es, kv :: t, hl, hh => ⟨hh 0 kv e rfl rfl, ents_of es t (by simpa using hl) (fun i kv e a b => hh (i + 1) kv e (by simpa using a) (by simpa using b))⟩
  | [], _ :: _, hl, _ => by simp at hl
  | _ :: _, [], hl, _ => by simp at hl
theorem ents_to {F : Nat → Prop} {w : World} {clock : Nat} : ∀ {es : List MapEntry} {kvs : List (Int × AV)}, Ents F w clock es kvs →
    es.length = kvs.length ∧ ∀ (i : Nat) kv e, kvs[i]? = some kv → es[i]? = some e → e.key = .int .i64 kv.1 ∧ Rep F w kv.2 e.val ∧ e.born < clock
  | [], [], _ => ⟨rfl, fun i kv e a => by simp at a⟩
  | e :: es, kv :: t, ⟨h1, h2⟩ => by
    obtain ⟨h3, h4⟩ := ents_to h2
    refine ⟨by simp [h3], fun i kv' e' a b => ?_⟩
    cases i with
    | zero => simp at a b; subst a; subst b; exact h1
    | succ i => exact h4 i kv' e' (by simpa using a) (by simpa using b)
  | [], _ :: _, h => h.elim
  | _ :: _, [], h => h.elim

theorem find_ents {F : Nat → Prop} {w : World} {clock : Nat} {n : Int} : ∀ {es : List MapEntry} {kvs : List (Int × AV)} (s : Nat), Ents F w clock es kvs →
    (Instr.findNow (.int .i64) (.int .i64 n) es s = some none ∧ kvGet kvs n = none) ∨ ∃ i e av, Instr.findNow (.int .i64) (.int .i64 n) es s = some (some (s + i, e.val)) ∧ es[i]? = some e ∧ kvs[i]? = some (n, av) ∧ kvGet kvs n = some av ∧ (∀ j kv, j < i → kvs[j]? = some kv → n ≠ kv.1)
  | [], [], s, _ => .inl ⟨rfl, rfl⟩
  | e :: es, kv :: t, s, ⟨⟨h1, h2, h3⟩, h4⟩ => by
    simp only [Instr.findNow, h1, Instr.sameNow, if_true]
    by_cases hn : n = kv.1
    · subst hn
      refine .inr ⟨0, e, kv.2, by simp, rfl, rfl, by simp [kvGet], fun j kv hj => by omega⟩
    · have hb : (n == kv.1) = false := by simpa using hn
      rw [hb]
      rcases find_ents (n := n) (s + 1) h4 with ⟨h5, h6⟩ | ⟨i, e', av, h5, h6, h7, h8, h9⟩
      · exact .inl ⟨h5, by simp [kvGet, hn, h6]⟩
      · refine .inr ⟨i + 1, e', av, by rw [h5, show s + 1 + i = s + (i + 1) by omega], by simpa using h6, by simpa using h7, by simp [kvGet, hn, h8], fun j kv' hj hk => ?_⟩
        cases j with
        | zero => simp at hk; subst hk; exact hn
        | succ j => exact h9 j kv' (by omega) (by simpa using hk)
  | [], _ :: _, _, h => h.elim
  | _ :: _, [], _, h => h.elim

theorem kvPut_new : ∀ {kvs : List (Int × AV)} {n : Int} {v : AV}, kvGet kvs n = none → kvPut kvs n v = kvs ++ [(n, v)]
  | [], n, v, _ => rfl
  | (k, u) :: t, n, v, h => by
    by_cases hn : n = k
    · simp [kvGet, hn] at h
    · simp only [kvGet, hn, if_false] at h
      simp only [kvPut, hn, if_false, List.cons_append]
      rw [kvPut_new h]
theorem kvPut_old : ∀ {kvs : List (Int × AV)} {n : Int} {v av : AV} {i : Nat}, kvs[i]? = some (n, av) → (∀ j kv, j < i → kvs[j]? = some kv → n ≠ kv.1) → kvPut kvs n v = kvs.set i (n, v)
  | [], n, v, av, i, h, _ => by simp at h
  | (k, u) :: t, n, v, av, 0, h, _ => by simp at h; obtain ⟨rfl, rfl⟩ := h; simp [kvPut]
  | (k, u) :: t, n, v, av, i + 1, h, hj => by
    have hn : ¬ n = k := hj 0 (k, u) (by omega) rfl
    simp only [kvPut, hn, if_false, List.set_cons_succ]
    rw [kvPut_old (by simpa using h) (fun j kv hlt hk => hj (j + 1) kv (by omega) (by simpa using hk))]
theorem kvDel_old : ∀ {kvs : List (Int × AV)} {n : Int} {av : AV} {i : Nat}, kvs[i]? = some (n, av) → (∀ j kv, j < i → kvs[j]? = some kv → n ≠ kv.1) → kvDel kvs n = kvs.eraseIdx i
  | [], n, av, i, h, _ => by simp at h
  | (k, u) :: t, n, av, 0, h, _ => by simp at h; obtain ⟨rfl, rfl⟩ := h; simp [kvDel]
  | (k, u) :: t, n, av, i + 1, h, hj => by
    have hn : ¬ n = k := hj 0 (k, u) (by omega) rfl
    simp only [kvDel, hn, if_false, List.eraseIdx_cons_succ]
    rw [kvDel_old (by simpa using h) (fun j kv hlt hk => hj (j + 1) kv (by omega) (by simpa using hk))]
theorem kvDel_none : ∀ {kvs : List (Int × AV)} {n : Int}, kvGet kvs n = none → kvDel kvs n = kvs
  | [], n, _ => rfl
  | (k, u) :: t, n, h => by
    by_cases hn : n = k
    · simp [kvGet, hn] at h
    · simp only [kvGet, hn, if_false] at h
      simp only [kvDel, hn, if_false]
      rw [kvDel_none h]

theorem run_checkKey {k : TypeId} {n : Int} {b : Bool} (hk : P.underlying k = some (.int .i64)) (w : World) : (Instr.checkKey b 10000 k (.int .i64 n)).run P w = .ok () w := by
  rw [show (10000 : Nat) = 9999 + 1 from rfl, Instr.checkKey]
  simp [run_underlying' hk]
theorem run_findKey {k : TypeId} {n : Int} {es : List MapEntry} {r : Option (Nat × Value)} (hk : P.underlying k = some (.int .i64)) (hf : Instr.findNow (.int .i64) (.int .i64 n) es 0 = some r) (w : World) : (Instr.findKey k (.int .i64 n) es).run P w = .ok r w := by
  unfold Instr.findKey
  simp [run_underlying' hk, hf]

/-- A new map. -/
theorem qMakeMap {o : Oper} {t : TypeId} {d : Nat} (ho : o.op = .makeMap t none) (hd : o.dst = some d) (hN : d < N) (hk : ∀ b, K ((d, .v (.map (some b))) :: env) (.map b [] :: h)) : AOpQ P N o env h K := by
  intro B F a w Q s e hdef
  obtain ⟨hr, he, hag⟩ := s.r.new (o := .map #[] 0) (x := .map w.heap.size []) rfl ⟨#[], 0, heap_new w _, rfl, fun i kv e a => by simp at a, fun i j e f a => by simp at a⟩
  have hrun : (execOp a.eval o).run P w = .ok (.value (.map (some w.heap.size))) (w.alloc (.map #[] 0)) := by simp [execOp, ho, Instr.makeMap]
  unfold Oper.wp
  rw [hrun, Oper.upon_value, hd]
  exact ⟨hdef, F, _, _, hk _, s.put he hr hN (.v _), e.trans he, hag, fun _ h => h, fun b hb => .inl (by simp [hb])⟩

theorem map_ents {F : Nat → Prop} {w : World} {b : Nat} {kvs : List (Int × AV)} (hr : HARep F w (.map b kvs)) : ∃ ents clock, w.heap[b]? = some (.map ents clock) ∧ Ents F w clock ents.toList kvs ∧ (∀ (i j : Nat) e f, ents[i]? = some e → ents[j]? = some f → e.born = f.born → i = j) := by
  obtain ⟨ents, clock, h1, h2, h3, h4⟩ := hr
  exact ⟨ents, clock, h1, ents_of _ _ (by simpa using h2) (fun i kv e a b => h3 i kv e a (by simpa using b)), h4⟩

theorem own_map {b : Nat} {kvs : List (Int × AV)} {h' : List HA} (hs : Spl h (.map b kvs) h') : b ∈ owns h := owns_spl hs (by simp [HA.own])

/-- 'm[k]' -/
theorem rLook {o : Oper} {t kt et : TypeId} {x i : Operand} {b : Nat} {n : Int} {kvs : List (Int × AV)} {z : Value} {av : AV} {h' : List HA} (ho : o.op = .lookup t x i false) (hx : ev env x = some (.v (.map (some b)))) (hi : ev env i = some (.int n)) (hs : Spl h (.map b kvs) h') (hm : mapOf P t = some (kt, et)) (hz : zeroOf P et = some z)
    (hg : (kvGet kvs n).getD (.v z) = av) : ARead P N o env h av := by
  subst hg
  intro F a w s
  obtain ⟨h1, h2⟩ := mapOf_spec hm
  have hr := s.ev hx
  have hri := s.ev hi
  generalize hv : a.eval x = v at hr
  generalize hvi : a.eval i = vi at hri
  cases hr
  cases hri
  obtain ⟨ents, clock, h3, h4, _⟩ := map_ents (s.r.rep _ (spl_mem hs))
  have hobj : ∀ w', Agree F h w w' → (getObj b).run P w' = .ok (.map ents clock) w' := fun w' hw => by
    have := hw b (.inr (own_map hs))
    simp only [getObj, Sem.run, this, h3]
  rcases find_ents (n := n) 0 h4 with ⟨h5, h6⟩ | ⟨j, e, av, h5, h6, h7, h8, _⟩
  · rw [h6]
    refine ⟨z, .v z, fun w' hw => ?_⟩
    simp [execOp, ho, hv, hvi, Instr.lookup, run_underlying' h1, hobj w' hw, run_checkKey h2, run_findKey h2 h5, run_zero hz]
  · rw [h8]
    have h9 := ((ents_to h4).2 j _ e h7 h6).2.1
    refine ⟨e.val, h9, fun w' hw => ?_⟩
    simp [execOp, ho, hv, hvi, Instr.lookup, run_underlying' h1, hobj w' hw, run_checkKey h2, run_findKey h2 h5]

/-- What is known of a value, said otherwise. -/
def Cast (a b : AV) : Prop := ∀ F w x, Rep F w a x → Rep F w b x
theorem Cast.refl {a : AV} : Cast a a := fun _ _ _ h => h
theorem rCast {o : Oper} {av av' : AV} (hr : ARead P N o env h av) (hc : Cast av av') : ARead P N o env h av' := fun F a w s => let ⟨x, hx, e⟩ := hr F a w s; ⟨x, hc F w x hx, e⟩
theorem pCast {o : Oper} {av av' : AV} (hr : APure P N o env av) (hc : Cast av av') : APure P N o env av' := fun F h a w s => let ⟨x, hx, e⟩ := hr F h a w s; ⟨x, hc F w x hx, e⟩
theorem cast_agg {xs : Array Value} {cs : List AV} (hl : cs.length = xs.size) (h1 : xs.toList.all (·.oneCell') = true) (hc : ∀ (i : Nat) y c, xs[i]? = some y → cs[i]? = some c → Cast (.v y) c) : Cast (.v (.agg xs)) (.agg cs) := fun F w x hx => by
  cases hx
  refine .agg cs xs hl.symm (fun x hx => List.all_eq_true.1 h1 x (by simpa using hx)) (fun j av x hj hx => hc j x av hx hj F w x (.v x))
theorem cast_nil {sz : Nat} : Cast (.v (.slice none 0 0)) (.sl sz []) := fun F w x hx => by cases hx; exact .sl0 _ _ _

theorem kvGet_put : ∀ {kvs : List (Int × AV)} {k n : Int} {v : AV}, kvGet (kvPut kvs k v) n = if n = k then some v else kvGet kvs n
  | [], k, n, v => by simp [kvPut, kvGet]
  | (j, u) :: t, k, n, v => by
    by_cases hk : k = j
    · simp only [kvPut, hk, if_true, kvGet]
      split <;> rfl
    · simp only [kvPut, hk, if_false, kvGet]
      rw [kvGet_put]
      by_cases hn : n = j
      · rw [if_pos hn, if_pos hn, if_neg (fun e => hk (e.symm.trans hn))]
      · rw [if_neg hn, if_neg hn]

/-- 'v, ok := m[k]' -/
theorem rLookOk {o : Oper} {t kt et : TypeId} {x i : Operand} {b : Nat} {n : Int} {kvs : List (Int × AV)} {z : Value} {av : AV} {h' : List HA} (ho : o.op = .lookup t x i true) (hx : ev env x = some (.v (.map (some b)))) (hi : ev env i = some (.int n)) (hs : Spl h (.map b kvs) h') (hm : mapOf P t = some (kt, et)) (hz : zeroOf P et = some z)
    (hg : .tup [(kvGet kvs n).getD (.v z), .bool (kvGet kvs n).isSome] = av) : ARead P N o env h av := by
  subst hg
  intro F a w s
  obtain ⟨h1, h2⟩ := mapOf_spec hm
  have hr := s.ev hx
  have hri := s.ev hi
  generalize hv : a.eval x = v at hr
  generalize hvi : a.eval i = vi at hri
  cases hr
  cases hri
  obtain ⟨ents, clock, h3, h4, _⟩ := map_ents (s.r.rep _ (spl_mem hs))
  have hobj : ∀ w', Agree F h w w' → (getObj b).run P w' = .ok (.map ents clock) w' := fun w' hw => by
    have := hw b (.inr (own_map hs))
    simp only [getObj, Sem.run, this, h3]
  have two : ∀ (a b : AV) (x y : Value), Rep F w a x → Rep F w b y → Rep F w (.tup [a, b]) (.tuple #[x, y]) := fun a b x y ha hb => .tup _ _ rfl (fun j av z hj hz => by
    match j with
    | 0 => simp at hj hz; subst hj; subst hz; exact ha
    | 1 => simp at hj hz; subst hj; subst hz; exact hb
    | j + 2 => simp at hj)
  rcases find_ents (n := n) 0 h4 with ⟨h5, h6⟩ | ⟨j, e, av, h5, h6, h7, h8, _⟩
  · rw [h6]
    refine ⟨.tuple #[z, .bool false], two _ _ _ _ (.v z) (.v _), fun w' hw => ?_⟩
    simp [execOp, ho, hv, hvi, Instr.lookup, run_underlying' h1, hobj w' hw, run_checkKey h2, run_findKey h2 h5, run_zero hz]
  · rw [h8]
    have h9 := ((ents_to h4).2 j _ e h7 h6).2.1
    refine ⟨.tuple #[e.val, .bool true], two _ _ _ _ h9 (.v _), fun w' hw => ?_⟩
    simp [execOp, ho, hv, hvi, Instr.lookup, run_underlying' h1, hobj w' hw, run_checkKey h2, run_findKey h2 h5]

theorem rLenM {o : Oper} {t kt et : TypeId} {xo : Operand} {b : Nat} {kvs : List (Int × AV)} {h' : List HA} (ho : o.op = .call ⟨.builtin .len, #[xo], #[t]⟩) (hx : ev env xo = some (.v (.map (some b)))) (hs : Spl h (.map b kvs) h') (hm : mapOf P t = some (kt, et)) : ARead P N o env h (.int kvs.length) := by
  intro F a w s
  obtain ⟨h1, h2⟩ := mapOf_spec hm
  have hr := s.ev hx
  generalize hv : a.eval xo = v at hr
  cases hr
  obtain ⟨ents, clock, h3, h4, _⟩ := map_ents (s.r.rep _ (spl_mem hs))
  have hl := (ents_to h4).1
  refine ⟨.int .i64 kvs.length, .v _, fun w' hw => ?_⟩
  have hobj : (getObj b).run P w' = .ok (.map ents clock) w' := by
    have := hw b (.inr (own_map hs))
    simp only [getObj, Sem.run, this, h3]
  simp only [Array.length_toList] at hl
  simp [execOp, ho, resolve, invoke, builtin, hv, Builtin.len_, run_underlying' h1, hobj, goInt, hl]

theorem setObj_heap {w : World} {b : Nat} {o : Obj} (hb : b < w.heap.size) : ({ w with heap := w.heap.setIfInBounds b o } : World).heap[b]? = some o := by simp [hb]
theorem setObj_other {w : World} {b k : Nat} {o : Obj} (hk : k ≠ b) : ({ w with heap := w.heap.setIfInBounds b o } : World).heap[k]? = w.heap[k]? := by
  simp only [Array.getElem?_setIfInBounds]
  rw [if_neg (fun e => hk e.symm)]

theorem map_set {F : Nat → Prop} {w : World} {b : Nat} {kvs kvs' : List (Int × AV)} {h' : List HA} {ents' : Array MapEntry} {clock' : Nat} (r : R F h w) (hs : Spl h (.map b kvs) h')
    (hl : ents'.size = kvs'.length) (he : ∀ (i : Nat) kv e, kvs'[i]? = some kv → ents'[i]? = some e → e.key = .int .i64 kv.1 ∧ Rep F w kv.2 e.val ∧ e.born < clock') (hb : ∀ (i j : Nat) e f, ents'[i]? = some e → ents'[j]? = some f → e.born = f.born → i = j) :
    R F (.map b kvs' :: h') { w with heap := w.heap.setIfInBounds b (.map ents' clock') } ∧ Ext F h w F (.map b kvs' :: h') { w with heap := w.heap.setIfInBounds b (.map ents' clock') } := by
  have hlt := r.lt b (own_map hs)
  refine r.upd (x' := .map b kvs') hs rfl rfl rfl rfl (by simp) (fun k hk => setObj_other (by simpa [HA.own] using hk)) ⟨ents', clock', setObj_heap hlt, hl, fun i kv e a c => ?_, hb⟩
  obtain ⟨h1, h2, h3⟩ := he i kv e a c
  exact ⟨h1, h2.mono (fun _ h => h) (fun k hk => setObj_other (fun e => (r.sep k hk).2 (e ▸ own_map hs))), h3⟩

/-- 'm[k] = v' -/
theorem oMapSet {o : Oper} {t kt et : TypeId} {x i y : Operand} {b : Nat} {n : Int} {kvs : List (Int × AV)} {av : AV} {h' : List HA} (ho : o.op = .mapUpdate t x i y) (hd : o.dst = none) (hx : ev env x = some (.v (.map (some b)))) (hi : ev env i = some (.int n)) (hy : ev env y = some av) (hs : Spl h (.map b kvs) h') (hm : mapOf P t = some (kt, et))
    (hk : K env (.map b (kvPut kvs n av) :: h')) : AOp P N o env h K := by
  intro B F a w Q s ex hdef
  obtain ⟨h1, h2⟩ := mapOf_spec hm
  have hr := s.ev hx
  have hri := s.ev hi
  generalize hv : a.eval x = v at hr
  generalize hvi : a.eval i = vi at hri
  cases hr
  cases hri
  have hyv := s.ev hy
  obtain ⟨ents, clock, h3, h4, h5⟩ := map_ents (s.r.rep _ (spl_mem hs))
  obtain ⟨hl, hel⟩ := ents_to h4
  simp only [Array.length_toList, Array.getElem?_toList] at hl hel
  have hobj : (getObj b).run P w = .ok (.map ents clock) w := by simp only [getObj, Sem.run, h3]
  have hset : ∀ obj, (setObj b obj).run P w = .ok () { w with heap := w.heap.setIfInBounds b obj } := fun obj => by simp only [setObj, Sem.run, h3]
  unfold Oper.wp
  rcases find_ents (n := n) 0 h4 with ⟨h6, h7⟩ | ⟨j, e, av0, h6, h8, h9, h10, h11⟩
  · obtain ⟨hR, hE⟩ := map_set (kvs' := kvPut kvs n av) (ents' := ents.push { key := .int .i64 n, val := a.eval y, born := clock }) (clock' := clock + 1) s.r hs (by rw [kvPut_new h7]; simp [hl]) (fun i kv e hkv he => by
      rw [kvPut_new h7] at hkv
      rw [Array.getElem?_push] at he
      by_cases hi : i = ents.size
      · rw [if_pos hi] at he
        rw [hi, hl, List.getElem?_append_right (Nat.le_refl _)] at hkv
        simp at hkv he
        subst hkv; subst he
        exact ⟨rfl, hyv, by simp⟩
      · rw [if_neg hi] at he
        have hlt := (Array.getElem?_eq_some_iff.1 he).1
        rw [List.getElem?_append_left (by omega)] at hkv
        obtain ⟨a1, a2, a3⟩ := hel i kv e hkv he
        exact ⟨a1, a2, by omega⟩) (fun i j e f hi hj hb => by
      rw [Array.getElem?_push] at hi hj
      split at hi <;> split at hj
      · omega
      · rename_i g1 g2
        have hjl := (Array.getElem?_eq_some_iff.1 hj).1
        have := (hel j _ f (List.getElem?_eq_getElem (by omega)) hj).2.2
        simp at hi; subst hi; simp at hb; omega
      · rename_i g1 g2
        have hil := (Array.getElem?_eq_some_iff.1 hi).1
        have := (hel i _ e (List.getElem?_eq_getElem (by omega)) hi).2.2
        simp at hj; subst hj; simp at hb; omega
      · exact h5 i j e f hi hj hb)
    have hrun : (execOp a.eval o).run P w = .ok .skip { w with heap := w.heap.setIfInBounds b (.map (ents.push { key := .int .i64 n, val := a.eval y, born := clock }) (clock + 1)) } := by
      simp [execOp, ho, hv, hvi, Instr.mapUpdate, run_underlying' h1, hobj, run_checkKey h2, run_findKey h2 h6, hset]
    rw [hrun, Oper.upon_skip, hd]
    exact ⟨hdef, F, env, _, hk, s.go hE hR, ex.trans hE⟩
  · simp only [Array.getElem?_toList] at h8
    have hjl := (Array.getElem?_eq_some_iff.1 h8).1
    have hkey := (hel j _ e h9 h8).1
    obtain ⟨hR, hE⟩ := map_set (kvs' := kvPut kvs n av) (ents' := ents.modify j fun e => { e with key := .int .i64 n, val := a.eval y }) (clock' := clock) s.r hs (by rw [kvPut_old h9 h11]; simp [hl]) (fun i kv e' hkv he => by
      rw [kvPut_old h9 h11] at hkv
      rw [Array.getElem?_modify] at he
      by_cases hij : j = i
      · subst hij
        rw [if_pos rfl, h8] at he
        rw [List.getElem?_set_self (by omega)] at hkv
        simp at hkv he
        subst hkv; subst he
        exact ⟨rfl, hyv, (hel j _ e h9 h8).2.2⟩
      · rw [if_neg hij] at he
        rw [List.getElem?_set_ne hij] at hkv
        exact hel i kv e' hkv he) (fun i k e' f hi hj hb => by
      rw [Array.getElem?_modify] at hi hj
      have hb2 : ∀ q x, (if j = q then Option.map (fun e => { e with key := Value.int .i64 n, val := a.eval y : MapEntry }) ents[q]? else ents[q]?) = some x → ∃ y, ents[q]? = some y ∧ y.born = x.born := fun q x hq => by
        split at hq
        · obtain ⟨y, hy, rfl⟩ := Option.map_eq_some_iff.1 hq; exact ⟨y, hy, rfl⟩
        · exact ⟨x, hq, rfl⟩
      obtain ⟨y1, q1, q2⟩ := hb2 i e' hi
      obtain ⟨y2, q3, q4⟩ := hb2 k f hj
      exact h5 i k y1 y2 q1 q3 (by rw [q2, q4, hb]))
    have hrun : (execOp a.eval o).run P w = .ok .skip { w with heap := w.heap.setIfInBounds b (.map (ents.modify j fun e => { e with key := .int .i64 n, val := a.eval y }) clock) } := by
      simp [execOp, ho, hv, hvi, Instr.mapUpdate, run_underlying' h1, hobj, run_checkKey h2, run_findKey h2 h6, hset, h8, hkey, Instr.keyThatStays, Instr.sameBits]
    rw [hrun, Oper.upon_skip, hd]
    exact ⟨hdef, F, env, _, hk, s.go hE hR, ex.trans hE⟩

end A
end Go.Proofs.Ytmcannmjielalaa
