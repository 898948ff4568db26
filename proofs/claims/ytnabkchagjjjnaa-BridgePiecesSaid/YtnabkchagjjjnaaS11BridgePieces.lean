/- Texts that BridgePieces's proof rests on, part 12. -/
import Derived.WideKeyRuns
import Derived.Test.YtnabkchagjjjnaaS10BridgePieces
set_option linter.unusedVariables false
set_option linter.unusedSimpArgs false
set_option linter.unusedSectionVars false
namespace Go.Proofs.Ytnabkchagjjjnaa
namespace A
variable {P : Program} {N : Nat} {env : Env} {h : List HA} {K : Cont} {X : List (Nat × Cont)} {Rt : Cont}
section
variable {κ β : Type} [DecidableEq κ]
def kGet : List (κ × β) → κ → Option β
  | [], _ => none
  | (k, v) :: t, n => if n = k then some v else kGet t n
def kPut : List (κ × β) → κ → β → List (κ × β)
  | [], n, v => [(n, v)]
  | (k, u) :: t, n, v => if n = k then (n, v) :: t else (k, u) :: kPut t n v
theorem kPut_new : ∀ {m : List (κ × β)} {n : κ} {v : β}, kGet m n = none → kPut m n v = m ++ [(n, v)]
  | [], n, v, _ => rfl
  | (k, u) :: t, n, v, h => by
    by_cases hn : n = k
    · simp [kGet, hn] at h
    · simp only [kGet, hn, if_false] at h
      simp only [kPut, hn, if_false, List.cons_append]
      rw [kPut_new h]
theorem kPut_old : ∀ {m : List (κ × β)} {n : κ} {v u : β} {i : Nat}, m[i]? = some (n, u) → (∀ j p, j < i → m[j]? = some p → n ≠ p.1) → kPut m n v = m.set i (n, v)
  | [], n, v, u, i, h, _ => by simp at h
  | (k, u') :: t, n, v, u, 0, h, _ => by simp at h; obtain ⟨rfl, rfl⟩ := h; simp [kPut]
  | (k, u') :: t, n, v, u, i + 1, h, hj => by
    have hn : ¬ n = k := hj 0 (k, u') (by omega) rfl
    simp only [kPut, hn, if_false, List.set_cons_succ]
    rw [kPut_old (by simpa using h) (fun j p hlt hk => hj (j + 1) p (by omega) (by simpa using hk))]
theorem kGet_put {n k : κ} {v : β} : ∀ {m : List (κ × β)}, kGet (kPut m k v) n = if n = k then some v else kGet m n
  | [] => by simp [kPut, kGet]
  | (j, u) :: t => by
    simp only [kPut]
    by_cases h : k = j
    · subst h
      rw [if_pos rfl]
      simp only [kGet]
      split <;> rfl
    · rw [if_neg h]
      simp only [kGet, kGet_put (m := t)]
      by_cases h2 : n = j
      · subst h2; rw [if_pos rfl, if_neg (fun e => h e.symm), if_pos rfl]
      · rw [if_neg h2, if_neg h2]
end
/-- A type of keys: its plan, and the cells of a key. -/
structure KeyT (P : Program) (kt : TypeId) {κ : Type} [DecidableEq κ] (kf : κ → List Value) (n : Nat) (l : List (Nat × EQ)) : Prop where
  pln : eqPlan P kt = some (n, l)
  wide : (match P.underlying kt with | some (.array _ _) | some (.struct _) => true | _ => false) = true
  len : ∀ a, (kf a).length = n
  eq : ∀ a b, eqLeaves l ((kf a).map .v) ((kf b).map .v) = some (decide (a = b))
  one : ∀ a, (kf a).all (·.oneCell') = true
  bits : ∀ a, (kf a).all (fun x => Instr.sameBits 9999 x x) = true
def keyV {κ : Type} (kf : κ → List Value) (a : κ) : Value := .agg (kf a).toArray
def keyA {κ : Type} (kf : κ → List Value) (a : κ) : AV := .agg ((kf a).map .v)
theorem rep_keyA {κ : Type} {kf : κ → List Value} {a : κ} {F : Nat → Prop} {w : World} {x : Value} (r : Rep F w (keyA kf a) x) : x = keyV kf a := by
  cases r with
  | agg _ xs hl h1 hR =>
    have : xs = (kf a).toArray := by
      apply Array.ext (by simpa using hl)
      intro i hi hi'
      have hi2 : i < (kf a).length := by simpa using hi'
      have := hR i (.v (kf a)[i]) xs[i] (by simp [hi2]) (Array.getElem?_eq_getElem hi)
      generalize hz : xs[i] = z at this
      cases this
      simp
    rw [this]; rfl
section
variable {xs : Array Value}
theorem run_checkPlan (em : Bool) : ∀ (f : Nat) (t : TypeId) (o : Nat) (l : List (Nat × EQ)) (d : Nat) (x : Value) (w : World), f ≤ d → plan P f t o = some l → IsPart P xs t o x → (Instr.checkKey em d t x).run P w = .ok () w := by
  intro f
  induction f with
  | zero => intro t o l d x w _ hp; cases hp
  | succ f ih =>
    intro t o l d x w hd hp hx
    obtain ⟨d, rfl⟩ : ∃ e, d = e + 1 := ⟨d - 1, by omega⟩
    obtain ⟨n, g, ht, hxn, hx⟩ := hx
    rw [plan, ht] at hp
    split at hp
    · rename_i k n0 hu hn
      simp [Instr.checkKey, run_underlying' hu]
    · rename_i n0 hu hn
      simp [Instr.checkKey, run_underlying' hu]
    · rename_i n0 hu hn
      simp [Instr.checkKey, run_underlying' hu]
    · rename_i e n0 hu hn
      simp [Instr.checkKey, run_underlying' hu]
    · rename_i fs n0 hu hn
      cases hn
      split at hp
      case isTrue => cases hp
      rename_i hst
      have hx : x = .agg (xs.extract o (o + n)) := by simpa using hx
      subst hx
      rw [Instr.checkKey]
      simp only [Sem.run_bind, run_underlying' hu, Result.andThen_ok]
      rw [← Array.forIn_toList]
      generalize fs.toList = fl at hp
      clear hu
      induction fl generalizing l with
      | nil => simp
      | cons fd r ihf =>
        rw [planFs] at hp
        split at hp
        case h_2 => cases hp
        rename_i m g0 l1 l2 hn hty hg hr
        split at hp
        case isFalse => cases hp
        rename_i hfit
        obtain ⟨xi, hxi, px⟩ := run_part (xs := xs) (o := o) hty (plan_pos hty hg) hfit hxn w
        have hrun := ih fd.type (o + fd.offset) l1 d xi w (by omega) hg px
        have hne : fd.name ≠ "_" := by simpa using hn
        simp only [List.forIn_cons, if_pos hne, Sem.run_bind, hxi, hrun, Result.andThen_ok, Sem.run_pure]
        exact ihf l2 hr
    · rename_i k e n0 hu hn
      cases hn
      split at hp
      case h_2 => cases hp
      rename_i m g0 hty
      split at hp
      case isFalse => cases hp
      rename_i hfit
      have hx : x = .agg (xs.extract o (o + n)) := by simpa using hx
      subst hx
      obtain ⟨i, hi, him⟩ : ∃ i, P.info? e = some i ∧ i.size = m := by
        unfold tyOf at hty
        cases hi : P.info? e with
        | none => rw [hi] at hty; split at hty <;> simp_all
        | some i => exact ⟨i, rfl, by rw [hi] at hty; split at hty <;> simp_all⟩
      rw [Instr.checkKey]
      simp only [Sem.run_bind, run_underlying' hu, Result.andThen_ok]
      simp only [Std.Legacy.Range.forIn_eq_forIn_range', Std.Legacy.Range.size, Nat.sub_zero, Nat.add_one_sub_one, Nat.div_one]
      rw [List.range_eq_range'] at hp
      have hlt : ∀ i ∈ List.range' 0 k, i < k := fun i hi => by simp [List.mem_range'] at hi; omega
      generalize List.range' 0 k = is at hp hlt
      induction is generalizing l with
      | nil => simp
      | cons j r ihf =>
        rw [planIs] at hp
        split at hp
        case h_2 => cases hp
        rename_i l1 l2 hg hr
        have hjk : j * m + m ≤ n := by
          have : (j + 1) * m ≤ k * m := Nat.mul_le_mul_right m (hlt j (by simp))
          rw [Nat.succ_mul] at this
          omega
        obtain ⟨xi, hxi, px⟩ := run_part (xs := xs) (o := o) hty (plan_pos hty hg) hjk hxn w
        have hrun := ih e (o + j * m) l1 d xi w (by omega) hg px
        have hsz : (sizeOf e).run P w = .ok m w := run_sizeOf hty w
        simp only [List.forIn_cons, Sem.run_bind, hsz, hxi, hrun, Result.andThen_ok, Sem.run_pure]
        exact ihf l2 hr (fun i hi => hlt i (by simp [hi]))
    · cases hp
end
section
variable {κ : Type} [DecidableEq κ] {kf : κ → List Value} {kt : TypeId} {n : Nat} {l : List (Nat × EQ)}
theorem KeyT.part (k : KeyT P kt kf n l) (a : κ) : IsPart P (kf a).toArray kt 0 (keyV kf a) ∧ plan P 10 kt 0 = some l := by
  have hp := k.pln
  unfold eqPlan at hp
  split at hp
  case isTrue => cases hp
  split at hp
  case h_2 => cases hp
  rename_i n0 l0 hty hp'
  cases hp
  refine ⟨⟨n, true, hty, by simp [k.len a], .inl ⟨rfl, ?_⟩⟩, hp'⟩
  unfold keyV
  congr 1
  rw [Nat.zero_add]
  apply Array.ext'
  simp [← k.len a]
theorem KeyT.check (k : KeyT P kt kf n l) (a : κ) (em : Bool) (w : World) : (Instr.checkKey em 10000 kt (keyV kf a)).run P w = .ok () w :=
  run_checkPlan em 10 kt 0 l 10000 _ w (by decide) (k.part a).2 (k.part a).1
theorem KeyT.equal (k : KeyT P kt kf n l) (a b : κ) (w : World) : (Op.equal kt (keyV kf a) (keyV kf b)).run P w = .ok (decide (a = b)) w :=
  run_plan (F := fun _ => False) (w0 := w) (cs := (kf a).map .v) (ds := (kf b).map .v) (xs := (kf a).toArray) (ys := (kf b).toArray)
    (fun j av x hj hx => by rw [List.getElem?_map] at hj; simp only [List.getElem?_toArray] at hx; rw [hx] at hj; simp at hj; subst hj; exact .v _)
    (fun j av x hj hx => by rw [List.getElem?_map] at hj; simp only [List.getElem?_toArray] at hx; rw [hx] at hj; simp at hj; subst hj; exact .v _)
    10 kt 0 l _ Op.maxDepth _ _ w (by decide) (k.part a).2 (k.eq a b) (k.part a).1 (k.part b).1
theorem KeyT.stays (k : KeyT P kt kf n l) (a : κ) (w : World) : (Instr.keyThatStays (keyV kf a) (keyV kf a)).run P w = .ok (keyV kf a) w := by
  have hb := k.bits a
  have : Instr.sameBits 10000 (keyV kf a) (keyV kf a) = true := by
    rw [show (10000 : Nat) = 9999 + 1 from rfl]
    simp only [keyV, Instr.sameBits, beq_self_eq_true, Bool.true_and]
    rw [List.all_eq_true]
    intro p hp
    obtain ⟨i, hi, rfl⟩ := List.getElem_of_mem hp
    simp only [List.getElem_zip]
    exact List.all_eq_true.1 hb _ (by simp)
  unfold Instr.keyThatStays
  simp [this]
variable {β : Type} {c : β → AV}
def kvKM (kf : κ → List Value) (c : β → AV) (m : List (κ × β)) : List (Value × AV) := m.map fun p => (keyV kf p.1, c p.2)
def EntsK (kf : κ → List Value) (c : β → AV) (F : Nat → Prop) (w : World) (clock : Nat) : List MapEntry → List (κ × β) → Prop
  | [], [] => True
  | e :: es, kv :: t => (e.key = keyV kf kv.1 ∧ Rep F w (c kv.2) e.val ∧ e.born < clock) ∧ EntsK kf c F w clock es t
  | _, _ => False
theorem entsK_of {F : Nat → Prop} {w : World} {clock : Nat} : ∀ (es : List MapEntry) (m : List (κ × β)), es.length = m.length →
    (∀ (i : Nat) kv e, m[i]? = some kv → es[i]? = some e → e.key = keyV kf kv.1 ∧ Rep F w (c kv.2) e.val ∧ e.born < clock) → EntsK kf c F w clock es m
  | [], [], _, _ => trivial
  | e :: es, kv :: t, hl, hh => ⟨hh 0 kv e rfl rfl, entsK_of es t (by simpa using hl) (fun i kv e a b => hh (i + 1) kv e (by simpa using a) (by simpa using b))⟩
  | [], _ :: _, hl, _ => by simp at hl
  | _ :: _, [], hl, _ => by simp at hl
theorem entsK_to {F : Nat → Prop} {w : World} {clock : Nat} : ∀ {es : List MapEntry} {m : List (κ × β)}, EntsK kf c F w clock es m →
    es.length = m.length ∧ ∀ (i : Nat) kv e, m[i]? = some kv → es[i]? = some e → e.key = keyV kf kv.1 ∧ Rep F w (c kv.2) e.val ∧ e.born < clock
  | [], [], _ => ⟨rfl, fun i kv e a => by simp at a⟩
  | e :: es, kv :: t, ⟨h1, h2⟩ => by
    obtain ⟨h3, h4⟩ := entsK_to h2
    refine ⟨by simp [h3], fun i kv' e' a b => ?_⟩
    cases i with
    | zero => simp at a b; subst a; subst b; exact h1
    | succ i => exact h4 i kv' e' (by simpa using a) (by simpa using b)
  | [], _ :: _, h => h.elim
  | _ :: _, [], h => h.elim
theorem find_asking (k : KeyT P kt kf n l) {F : Nat → Prop} {w0 : World} {clock : Nat} {a : κ} : ∀ {es : List MapEntry} {m : List (κ × β)} (s : Nat), EntsK kf c F w0 clock es m →
    ((∀ w, (Instr.findAsking kt (keyV kf a) es s).run P w = .ok none w) ∧ kGet m a = none) ∨
    ∃ i e v, (∀ w, (Instr.findAsking kt (keyV kf a) es s).run P w = .ok (some (s + i, e.val)) w) ∧ es[i]? = some e ∧ m[i]? = some (a, v) ∧ kGet m a = some v ∧ (∀ j p, j < i → m[j]? = some p → a ≠ p.1)
  | [], [], s, _ => .inl ⟨fun w => by simp [Instr.findAsking], rfl⟩
  | e :: es, kv :: t, s, ⟨⟨h1, h2, h3⟩, h4⟩ => by
    have heq := fun w => k.equal a kv.1 w
    by_cases hn : a = kv.1
    · subst hn
      refine .inr ⟨0, e, kv.2, fun w => by simp [Instr.findAsking, h1, heq], rfl, rfl, by simp [kGet], fun j kv hj => by omega⟩
    · rcases find_asking k (a := a) (s + 1) h4 with ⟨h5, h6⟩ | ⟨i, e', v, h5, h6, h7, h8, h9⟩
      · exact .inl ⟨fun w => by simp [Instr.findAsking, h1, heq, hn, h5], by simp [kGet, hn, h6]⟩
      · refine .inr ⟨i + 1, e', v, fun w => by simp [Instr.findAsking, h1, heq, hn, h5]; omega, by simpa using h6, by simpa using h7, by simp [kGet, hn, h8], fun j p hj hk => ?_⟩
        cases j with
        | zero => simp at hk; subst hk; exact hn
        | succ j => exact h9 j p (by omega) (by simpa using hk)
  | [], _ :: _, _, h => h.elim
  | _ :: _, [], _, h => h.elim
theorem find_entsK (k : KeyT P kt kf n l) {F : Nat → Prop} {w0 : World} {clock : Nat} {a : κ} {es : List MapEntry} {m : List (κ × β)} (he : EntsK kf c F w0 clock es m) :
    ((∀ w, (Instr.findKey kt (keyV kf a) es).run P w = .ok none w) ∧ kGet m a = none) ∨
    ∃ i e v, (∀ w, (Instr.findKey kt (keyV kf a) es).run P w = .ok (some (i, e.val)) w) ∧ es[i]? = some e ∧ m[i]? = some (a, v) ∧ kGet m a = some v ∧ (∀ j p, j < i → m[j]? = some p → a ≠ p.1) := by
  rcases find_asking k (a := a) 0 he with ⟨h1, h2⟩ | ⟨i, e, v, h1, h2⟩
  · exact .inl ⟨fun w => by rw [run_findKey_eq w k.wide]; exact h1 w, h2⟩
  · exact .inr ⟨i, e, v, fun w => by rw [run_findKey_eq w k.wide, h1 w, Nat.zero_add], h2⟩
theorem mapK_ents {F : Nat → Prop} {w : World} {b : Nat} {m : List (κ × β)} (hr : HARep F w (.mapK b (kvKM kf c m))) : ∃ ents clock, w.heap[b]? = some (.map ents clock) ∧ EntsK kf c F w clock ents.toList m ∧ (∀ (i j : Nat) e f, ents[i]? = some e → ents[j]? = some f → e.born = f.born → i = j) := by
  obtain ⟨ents, clock, h1, h2, h3, h4⟩ := hr
  refine ⟨ents, clock, h1, entsK_of _ _ (by simpa [kvKM] using h2) (fun i kv e a b => ?_), h4⟩
  exact h3 i (keyV kf kv.1, c kv.2) e (by simp [kvKM, a]) (by simpa using b)
theorem own_mapK {b : Nat} {kvs : List (Value × AV)} {h' : List HA} (hs : Spl h (.mapK b kvs) h') : b ∈ owns h := owns_spl hs (by simp [HA.own])
theorem mapK_set {F : Nat → Prop} {w : World} {b : Nat} {m m' : List (κ × β)} {h' : List HA} {ents' : Array MapEntry} {clock' : Nat} (r : R F h w) (hs : Spl h (.mapK b (kvKM kf c m)) h')
    (hl : ents'.size = m'.length) (he : ∀ (i : Nat) kv e, m'[i]? = some kv → ents'[i]? = some e → e.key = keyV kf kv.1 ∧ Rep F w (c kv.2) e.val ∧ e.born < clock') (hb : ∀ (i j : Nat) e f, ents'[i]? = some e → ents'[j]? = some f → e.born = f.born → i = j) :
    R F (.mapK b (kvKM kf c m') :: h') { w with heap := w.heap.setIfInBounds b (.map ents' clock') } ∧ Ext F h w F (.mapK b (kvKM kf c m') :: h') { w with heap := w.heap.setIfInBounds b (.map ents' clock') } := by
  have hlt := r.lt b (own_mapK hs)
  refine r.upd (x' := .mapK b (kvKM kf c m')) hs rfl rfl rfl rfl (by simp) (fun k hk => setObj_other (by simpa [HA.own] using hk)) ⟨ents', clock', setObj_heap hlt, by simpa [kvKM] using hl, fun i kv e a d => ?_, hb⟩
  simp only [kvKM, List.getElem?_map, Option.map_eq_some_iff] at a
  obtain ⟨p, hp, rfl⟩ := a
  obtain ⟨h1, h2, h3⟩ := he i p e hp d
  exact ⟨h1, h2.mono (fun _ h => h) (fun k hk => setObj_other (fun e => (r.sep k hk).2 (e ▸ own_mapK hs))), h3⟩
variable {o : Oper} {t et : TypeId} {x i y : Operand} {b : Nat} {m : List (κ × β)} {a : κ} {z : Value} {h' : List HA} {v : β}
/-- A map without keys. -/
theorem qMK {d : Nat} (kf : κ → List Value) (c : β → AV) (ho : o.op = .makeMap t none) (hk : ∀ b, K ((d, .v (.map (some b))) :: env) (.mapK b (kvKM kf c []) :: h)) (hd : o.dst = some d := by rfl) (hN : d < N := by decide) : AOpQ P N o env h K := by
  intro B F a w Q s e hdef
  obtain ⟨hr, he, hag⟩ := s.r.new (o := .map #[] 0) (x := .mapK w.heap.size (kvKM kf c [])) rfl ⟨#[], 0, heap_new w _, rfl, fun i kv e a => by simp [kvKM] at a, fun i j e f a => by simp at a⟩
  have hrun : (execOp a.eval o).run P w = .ok (.value (.map (some w.heap.size))) (w.alloc (.map #[] 0)) := by simp [execOp, ho, Instr.makeMap]
  unfold Oper.wp
  rw [hrun, Oper.upon_value, hd]
  exact ⟨hdef, F, _, _, hk _, s.put he hr hN (.v _), e.trans he, hag, fun _ h => h, fun b hb => .inl (by simp [hb])⟩
/-- 'm[k]' -/
theorem rKG (k : KeyT P kt kf n l) (hm : P.underlying t = some (.map kt et)) (hz : zeroOf P et = some z) (z0 : β) (hc : Cast (.v z) (c z0)) (ho : o.op = .lookup t x i false := by rfl) (hx : ev env x = some (.v (.map (some b))) := by rfl) (hi : ev env i = some (keyA kf a) := by rfl) (hs : Spl h (.mapK b (kvKM kf c m)) h' := by repeat constructor) : ARead P N o env h (c ((kGet m a).getD z0)) := by
  intro F ac w s
  have hr := s.ev hx
  have hri := rep_keyA (s.ev hi)
  generalize hv : ac.eval x = v at hr
  cases hr
  obtain ⟨ents, clock, h3, h4, _⟩ := mapK_ents (s.r.rep _ (spl_mem hs))
  have hobj : ∀ w', Agree F h w w' → (getObj b).run P w' = .ok (.map ents clock) w' := fun w' hw => by
    have := hw b (.inr (own_mapK hs))
    simp only [getObj, Sem.run, this, h3]
  rcases find_entsK k (a := a) h4 with ⟨h5, h6⟩ | ⟨j, e, v, h5, h6, h7, h8, _⟩
  · rw [h6]
    refine ⟨z, hc F w z (.v z), fun w' hw => ?_⟩
    simp [execOp, ho, hv, hri, Instr.lookup, run_underlying' hm, hobj w' hw, k.check, h5, run_zero hz]
  · rw [h8]
    have h9 := ((entsK_to h4).2 j _ e h7 h6).2.1
    refine ⟨e.val, h9, fun w' hw => ?_⟩
    simp [execOp, ho, hv, hri, Instr.lookup, run_underlying' hm, hobj w' hw, k.check, h5]
/-- 'm[k] = v' -/
theorem oKP (k : KeyT P kt kf n l) (ho : o.op = .mapUpdate t x i y) (hd : o.dst = none) (hx : ev env x = some (.v (.map (some b)))) (hi : ev env i = some (keyA kf a)) (hm : P.underlying t = some (.map kt et)) (hk : K env (.mapK b (kvKM kf c (kPut m a v)) :: h')) (hs : Spl h (.mapK b (kvKM kf c m)) h' := by repeat constructor) (hy : ev env y = some (c v) := by rfl) : AOp P N o env h K := by
  intro B F ac w Q s ex hdef
  have hr := s.ev hx
  have hri := rep_keyA (s.ev hi)
  generalize hv : ac.eval x = vx at hr
  cases hr
  have hyv := s.ev hy
  obtain ⟨ents, clock, h3, h4, h5⟩ := mapK_ents (s.r.rep _ (spl_mem hs))
  obtain ⟨hl, hel⟩ := entsK_to h4
  simp only [Array.length_toList, Array.getElem?_toList] at hl hel
  have hobj : (getObj b).run P w = .ok (.map ents clock) w := by simp only [getObj, Sem.run, h3]
  have hset : ∀ obj, (setObj b obj).run P w = .ok () { w with heap := w.heap.setIfInBounds b obj } := fun obj => by simp only [setObj, Sem.run, h3]
  unfold Oper.wp
  rcases find_entsK k (a := a) h4 with ⟨h6, h7⟩ | ⟨j, e, av0, h6, h8, h9, h10, h11⟩
  · obtain ⟨hR, hE⟩ := mapK_set (m' := kPut m a v) (ents' := ents.push { key := keyV kf a, val := ac.eval y, born := clock }) (clock' := clock + 1) s.r hs (by rw [kPut_new h7]; simp [hl]) (fun i kv e hkv he => by
      rw [kPut_new h7] at hkv
      rw [Array.getElem?_push] at he
      by_cases hi : i = ents.size
      · rw [if_pos hi] at he
        rw [hi, hl, List.getElem?_append_right (Nat.le_refl _)] at hkv
        simp at hkv he
        subst hkv; subst he
        exact ⟨rfl, hyv, by simp⟩
      · rw [if_neg hi] at he
        have hlt := (Array.getElem?_eq_some_iff.1 he).1
        rw [List.getElem?_append_left (by omega)] at hkv
        obtain ⟨a1, a2, a3⟩ := hel i kv e hkv he
        exact ⟨a1, a2, by omega⟩) (fun i j e f hi hj hb => by
      rw [Array.getElem?_push] at hi hj
      split at hi <;> split at hj
      · omega
      · rename_i g1 g2
        have hjl := (Array.getElem?_eq_some_iff.1 hj).1
        have := (hel j _ f (List.getElem?_eq_getElem (by omega)) hj).2.2
        simp at hi; subst hi; simp at hb; omega
      · rename_i g1 g2
        have hil := (Array.getElem?_eq_some_iff.1 hi).1
        have := (hel i _ e (List.getElem?_eq_getElem (by omega)) hi).2.2
        simp at hj; subst hj; simp at hb; omega
      · exact h5 i j e f hi hj hb)
    have hrun : (execOp ac.eval o).run P w = .ok .skip { w with heap := w.heap.setIfInBounds b (.map (ents.push { key := keyV kf a, val := ac.eval y, born := clock }) (clock + 1)) } := by
      simp [execOp, ho, hv, hri, Instr.mapUpdate, run_underlying' hm, hobj, k.check, h6, hset]
    rw [hrun, Oper.upon_skip, hd]
    exact ⟨hdef, F, env, _, hk, s.go hE hR, ex.trans hE⟩
  · simp only [Array.getElem?_toList] at h8
    have hjl := (Array.getElem?_eq_some_iff.1 h8).1
    have hkey := (hel j _ e h9 h8).1
    obtain ⟨hR, hE⟩ := mapK_set (m' := kPut m a v) (ents' := ents.modify j fun e => { e with key := keyV kf a, val := ac.eval y }) (clock' := clock) s.r hs (by rw [kPut_old h9 h11]; simp [hl]) (fun i kv e' hkv he => by
      rw [kPut_old h9 h11] at hkv
      rw [Array.getElem?_modify] at he
      by_cases hij : j = i
      · subst hij
        rw [if_pos rfl, h8] at he
        rw [List.getElem?_set_self (by omega)] at hkv
        simp at hkv he
        subst hkv; subst he
        exact ⟨rfl, hyv, (hel j _ e h9 h8).2.2⟩
      · rw [if_neg hij] at he
        rw [List.getElem?_set_ne hij] at hkv
        exact hel i kv e' hkv he) (fun i k e' f hi hj hb => by
      rw [Array.getElem?_modify] at hi hj
      have hb2 : ∀ q x, (if j = q then Option.map (fun e => { e with key := keyV kf a, val := ac.eval y : MapEntry }) ents[q]? else ents[q]?) = some x → ∃ y, ents[q]? = some y ∧ y.born = x.born := fun q x hq => by
        split at hq
        · obtain ⟨y, hy, rfl⟩ := Option.map_eq_some_iff.1 hq; exact ⟨y, hy, rfl⟩
        · exact ⟨x, hq, rfl⟩
      obtain ⟨y1, q1, q2⟩ := hb2 i e' hi
      obtain ⟨y2, q3, q4⟩ := hb2 k f hj
      exact h5 i k y1 y2 q1 q3 (by rw [q2, q4, hb]))
    have hrun : (execOp ac.eval o).run P w = .ok .skip { w with heap := w.heap.setIfInBounds b (.map (ents.modify j fun e => { e with key := keyV kf a, val := ac.eval y }) clock) } := by
      simp [execOp, ho, hv, hri, Instr.mapUpdate, run_underlying' hm, hobj, k.check, h6, hset, h8, hkey, k.stays]
    rw [hrun, Oper.upon_skip, hd]
    exact ⟨hdef, F, env, _, hk, s.go hE hR, ex.trans hE⟩
end
end A
end Go.Proofs.Ytnabkchagjjjnaa
set_option linter.unusedVariables false
set_option linter.unusedSimpArgs false
set_option linter.unusedSectionVars false
namespace Go.Proofs.Ytnabkchagjjjnaa
namespace A
variable {P : Program} {N : Nat} {env : Env} {h : List HA} {K : Cont} {X : List (Nat × Cont)} {Rt : Cont}
/-- A whole element of a slice of one's own. -/
theorem oStE {o : Oper} {t : TypeId} {x y : Operand} {b c e sz : Nat} {g : Bool} {α : Type} {fC : α → List AV} {l : List α} {a : α} {i : Int} {av : AV} {h' : List HA} (ho : o.op = .store t x y) (hd : o.dst = none) (hx : ev env x = some (.v (.pointer (some ⟨b, 0 + i.toNat * sz, none⟩)))) (hy : ev env y = some av)
    (ht : tyOf P t = some (sz, g)) (hk : K env (.sl (some b) c e sz ((l.set i.toNat a).map fC) :: h')) (hs : Spl h (.sl (some b) c e sz (l.map fC)) h' := by repeat constructor) (ha : avCells av = fC a := by rfl) (hn : ∀ z, (fC z).length = sz := by intro z; rfl) (h1 : oneOf av = true := by rfl) (hi : i.toNat < l.length := by omega) : AOp P N o env h K := by
  obtain ⟨z, hz⟩ : ∃ z, l[i.toNat]? = some z := ⟨_, List.getElem?_eq_getElem hi⟩
  refine oStS (j := 0) (yy := fC z) ho hd hx hy hs ht (by rw [ha, hn]) (by omega) (map_get hz) (by omega) h1 ?_
  rw [ha, setCells_all (by rw [hn, hn])]
  rw [← List.map_set]
  exact hk
/-! ### Maps whose values are slices of one's own -/
structure SlE (α : Type) where
  g : Option Nat
  c : Nat
  l : List α
def slE {α : Type} (s : SlE α) : AV := .v (slV s.g s.l.length s.c)
def slH {α : Type} (e : TypeId) (sz : Nat) (f : α → List AV) (s : SlE α) : HA := .sl s.g s.c e sz (s.l.map f)
def msH {α : Type} (e : TypeId) (sz : Nat) (f : α → List AV) (m : List (Int × SlE α)) : List HA := m.map fun p => slH e sz f p.2
section
variable {α : Type} {e : TypeId} {sz : Nat} {f : α → List AV}
theorem mDel_perm {β : Type} {n : Int} {v : β} : ∀ {m : List (Int × β)}, mGet m n = some v → m.Perm ((n, v) :: mDel m n)
  | [], h => by cases h
  | (k, u) :: t, h => by
    simp only [mGet] at h
    simp only [mDel]
    split at h
    · rename_i e; cases h; subst e; rw [if_pos rfl]
    · rename_i hne; rw [if_neg hne]; exact ((mDel_perm h).cons _).trans (.swap _ _ _)
theorem mPut_perm {β : Type} {n : Int} {v : β} : ∀ {m : List (Int × β)}, (mPut m n v).Perm ((n, v) :: mDel m n)
  | [] => .refl _
  | (k, u) :: t => by
    simp only [mPut, mDel]
    by_cases h : n = k
    · rw [if_pos h, if_pos h]
    · rw [if_neg h, if_neg h]; exact ((mPut_perm (m := t)).cons _).trans (.swap _ _ _)
theorem mDel_none {β : Type} {n : Int} : ∀ {m : List (Int × β)}, mGet m n = none → mDel m n = m
  | [], _ => rfl
  | (k, u) :: t, h => by
    simp only [mGet] at h
    split at h
    · cases h
    · rename_i hne; simp only [mDel]; rw [if_neg hne, mDel_none h]
def sl0 {α : Type} : SlE α := ⟨none, 0, []⟩
def slAt {α : Type} (m : List (Int × SlE α)) (n : Int) : SlE α := (mGet m n).getD sl0
theorem slAt_put {m : List (Int × SlE α)} {n k : Int} {s : SlE α} : slAt (mPut m n s) k = if k = n then s else slAt m k := by
  unfold slAt
  rw [mGet_put]
  split <;> rfl
/-- A slice that a map holds is not written any more. -/
theorem weak_settleE {b j n c : Nat} {k : Int} {g : Option Nat} {es : List (List AV)} {kvs : List (Int × AV)} {h' : List HA} (hp : h.Perm (.map b kvs :: .sl g c e sz es :: h')) (hj : kvs[j]? = some (k, .v (slV g n c))) (hn : n = es.length) : Weak N env h env (.map b (kvs.set j (k, .sl sz es)) :: h') := fun F a w s => by
  subst hn
  have r1 := s.r.perm hp
  have hr := r1.rep (.sl g c e sz es) (by simp)
  have hF' : ∀ b, F b → (F b ∨ g = some b) := fun b hb => .inl hb
  have hgo : ∀ b, g = some b → b ∈ (HA.sl g c e sz es).own := fun b hb => by subst hb; simp [HA.own]
  have hnd := r1.nd
  have hown : (owns (HA.map b kvs :: HA.sl g c e sz es :: h')).Perm ((HA.sl g c e sz es).own ++ owns (HA.map b kvs :: h')) := by
    simp only [owns_cons]
    rw [← List.append_assoc, ← List.append_assoc]
    exact List.perm_append_comm.append_right _
  have hnd2 := (hown.nodup_iff).1 hnd
  refine ⟨fun b => F b ∨ g = some b, ⟨⟨fun x hx => ?_, (List.nodup_append.1 hnd2).2.1, fun b' hb => r1.lt b' (hown.mem_iff.2 (List.mem_append_right _ hb)), fun b' hb => ?_⟩, s.size, fun j av hj => (s.env j av hj).mono hF' (fun _ _ => rfl)⟩, ⟨rfl, rfl, rfl, Nat.le_refl _, fun _ _ _ => rfl, fun b' hb => .inl ((owns_perm hp).mem_iff.2 (hown.mem_iff.2 (List.mem_append_right _ hb))), hF', fun b' hb => hb.imp id (fun e => .inl ((owns_perm hp).mem_iff.2 (hown.mem_iff.2 (List.mem_append_left _ (hgo b' e))))), Nat.le_refl _⟩⟩
  · rcases List.mem_cons.1 hx with rfl | hx
    · obtain ⟨ents, clock, h1, h2, h3, h4⟩ := r1.rep (.map b kvs) (by simp)
      refine ⟨ents, clock, h1, by rw [List.length_set]; exact h2, fun i kv en hi he => ?_, h4⟩
      by_cases hij : j = i
      · subst hij
        rw [List.getElem?_set_self (List.getElem?_eq_some_iff.1 hj).1] at hi
        cases hi
        obtain ⟨a1, a2, a3⟩ := h3 j _ en hj he
        refine ⟨a1, ?_, a3⟩
        simp only at a2 ⊢
        generalize hq : en.val = v at a2
        cases a2
        exact own_settled hr hF' (fun b hb => .inr hb)
      · rw [List.getElem?_set_ne hij] at hi
        obtain ⟨a1, a2, a3⟩ := h3 i kv en hi he
        exact ⟨a1, a2.mono hF' (fun _ _ => rfl), a3⟩
    · exact (r1.rep x (by simp [hx])).mono hF' (fun _ _ => rfl) (fun _ _ => rfl)
  · rcases hb with hb | hb
    · have := r1.sep b' hb; exact ⟨this.1, fun hm => this.2 (hown.mem_iff.2 (List.mem_append_right _ hm))⟩
    · exact ⟨r1.lt b' (hown.mem_iff.2 (List.mem_append_left _ (hgo b' hb))), fun hm => (List.nodup_append.1 hnd2).2.2 b' (hgo b' hb) b' hm rfl⟩
def slS {α : Type} (sz : Nat) (f : α → List AV) (l : List α) : AV := .sl sz (l.map f)
def msL {α : Type} (m : List (Int × SlE α)) : List (Int × List α) := m.map fun p => (p.1, p.2.l)
theorem msL_get {m : List (Int × SlE α)} (n : Int) : mGet (msL m) n = (mGet m n).map (·.l) := by
  induction m with
  | nil => rfl
  | cons p t ih =>
    obtain ⟨k, s⟩ := p
    show (if n = k then some s.l else mGet (msL t) n) = Option.map _ (if n = k then some s else mGet t n)
    rw [ih]
    split <;> rfl
theorem msL_keys (m : List (Int × SlE α)) : mKeys (msL m) = mKeys m := by simp [mKeys, msL, List.map_map, Function.comp_def]
end
/-! ### Parts of a slice of one's own -/
theorem pSlO {o : Oper} {t : TypeId} {x : Operand} {lo hi : Option Operand} {g : Option Nat} {sz n c l m : Nat} (ho : o.op = .slice t x lo hi none) (hx : ev env x = some (.v (slV g n c))) (ht : elemSize P t = some sz) (hl : BoundIs env lo 0 l) (hm : BoundIs env hi n m)
    (h1 : l ≤ m) (h2 : m ≤ c) : APure P N o env (.v (.slice (if c = l then g.map fun b => ⟨b, 0, none⟩ else g.map fun b => ⟨b, l * sz, none⟩) (m - l) (c - l))) := by
  intro F h a w st
  have hr := st.ev hx
  generalize hv : a.eval x = v at hr
  cases hr
  obtain ⟨el, g', hu, hs⟩ := elemSize_spec ht
  refine ⟨_, .v _, fun w' => ?_⟩
  simp only [execOp, ho, hv, Instr.sliceAt, Instr.slice, Sem.run_bind, Sem.run_pure, Result.andThen_ok, run_underlying' hu, Option.map_none, slV]
  have := run_bounds (P := P) st hl (len := n) (cap := c) hm h1 h2 true w'
  simp only [this, Result.andThen_ok, run_sizeOf hs, Sem.run_bind, Sem.run_pure]
  cases g <;> simp [add_none]
theorem pSlHi {o : Oper} {t : TypeId} {x : Operand} {hi : Option Operand} {g : Option Nat} {sz n c m : Nat} (ho : o.op = .slice t x none hi none) (hx : ev env x = some (.v (slV g n c))) (ht : elemSize P t = some sz) (hm : BoundIs env hi n m) (h2 : m ≤ c) : APure P N o env (.v (slV g m c)) := by
  have h := pSlO (P := P) (N := N) ho hx ht (bdN rfl) hm (Nat.zero_le _) h2
  have e : (Value.slice (if c = 0 then g.map fun b => (⟨b, 0, none⟩ : Addr) else g.map fun b => ⟨b, 0 * sz, none⟩) (m - 0) (c - 0)) = slV g m c := by
    rw [Nat.zero_mul]; simp [slV]
  rw [e] at h
  exact h
def tailV (g : Option Nat) (n c i sz : Nat) : Value := .slice (if c = i then g.map fun b => ⟨b, 0, none⟩ else g.map fun b => ⟨b, i * sz, none⟩) (n - i) (c - i)
theorem pSlLo {o : Oper} {t : TypeId} {x : Operand} {lo : Option Operand} {g : Option Nat} {sz n c i : Nat} (ho : o.op = .slice t x lo none none) (hx : ev env x = some (.v (slV g n c))) (ht : elemSize P t = some sz) (hl : BoundIs env lo 0 i) (h1 : i ≤ n) (h2 : n ≤ c) : APure P N o env (.v (tailV g n c i sz)) :=
  pSlO ho hx ht hl (bdN rfl) h1 h2
theorem own_cap {F : Nat → Prop} {w : World} {g : Option Nat} {c e sz : Nat} {es : List (List AV)} (hr : HARep F w (.sl g c e sz es)) : es.length ≤ c ∧ (g = none → c = 0 ∧ es = []) := by
  obtain ⟨xs, ⟨h1, h2⟩, h3, h4, h5⟩ := hr
  rcases h2 with ⟨hv, hn⟩ | ⟨g', cap, cur, hv, _, hg, hnc, hcm, hcs, htake⟩
  · cases g with
    | none =>
      simp [slV] at hv
      have : es = [] := hv.1
      subst this
      exact ⟨Nat.zero_le _, fun _ => ⟨hv.2, rfl⟩⟩
    | some b => simp [slV] at hv
  · cases g with
    | none => simp [slV] at hv
    | some b => simp [slV] at hv; exact ⟨by omega, fun h => by cases h⟩
theorem aCap {cd : Code} {g : Option Nat} {c e sz : Nat} {es : List (List AV)} {h' : List HA} (hs : Spl h (.sl g c e sz es) h') (k : es.length ≤ c → AWP P N cd env h K X Rt) : AWP P N cd env h K X Rt := by
  intro ro F a w hro s
  exact k (own_cap (s.r.rep _ (spl_mem hs))).1 ro F a w hro s
theorem weak_cut {g : Option Nat} {c e sz : Nat} {es : List (List AV)} {h' : List HA} (m : Nat) (hs : Spl h (.sl g c e sz es) h') : Weak N env h env (.sl g c e sz (es.take m) :: h') := by
  intro F a w s
  have hp : (owns h).Perm ((HA.sl g c e sz es).own ++ owns h') := owns_perm hs.perm
  have e1 : (HA.sl g c e sz (es.take m)).own = (HA.sl g c e sz es).own := by cases g <;> rfl
  have sub : ∀ k ∈ owns (HA.sl g c e sz (es.take m) :: h'), k ∈ owns h := fun k hk => by
    rw [owns_cons, e1] at hk
    exact hp.mem_iff.2 hk
  have nd : (owns (HA.sl g c e sz (es.take m) :: h')).Nodup := by
    rw [owns_cons, e1]
    exact hp.nodup_iff.1 s.r.nd
  refine ⟨F, ⟨s.r.same nd sub (fun y hy => ?_), s.size, s.env⟩, .same sub⟩
  rcases List.mem_cons.1 hy with rfl | hy
  · obtain ⟨xs, ⟨h1, h2⟩, h3, h4, h5⟩ := s.r.rep _ (spl_mem hs)
    have hle : (es.take m).length ≤ es.length := by rw [List.length_take]; omega
    have hmul : (es.take m).length * sz ≤ es.length * sz := Nat.mul_le_mul_right _ hle
    refine ⟨xs.take ((es.take m).length * sz), ⟨by rw [List.length_take, h1]; omega, ?_⟩, fun y hy => h3 y (List.mem_of_mem_take hy), fun x hx => h4 x (List.mem_of_mem_take hx), fun i j y av x hi hj hx => ?_⟩
    · rcases h2 with ⟨hv, hn⟩ | ⟨g', cap, cur, hv, h0, hg, hnc, hcm, hcs, htake⟩
      · left
        have h0 : (es.take m).length = 0 := by omega
        refine ⟨?_, h0⟩
        simp only [slV, Value.slice.injEq] at hv ⊢
        exact ⟨hv.1, by omega, hv.2.2⟩
      · right
        refine ⟨g', cap, cur, ?_, h0, hg, by omega, hcm, hcs, ?_⟩
        · simp only [slV, Value.slice.injEq] at hv ⊢
          exact ⟨hv.1, trivial, hv.2.2⟩
        · rw [← htake, List.take_take, Nat.min_eq_left hmul]
    · have hil := (List.getElem?_eq_some_iff.1 hi).1
      rw [List.getElem?_take] at hi
      have hi2 : es[i]? = some y := by
        split at hi
        · exact hi
        · cases hi
      refine h5 i j y av x hi2 hj ?_
      rw [List.getElem?_take] at hx
      split at hx
      · exact hx
      · cases hx
  · exact s.r.rep y (hs.perm.mem_iff.2 (by simp [hy]))
/-- 'clear' of the tail of a slice of one's own. -/
theorem oClearT {o : Oper} {t e : TypeId} {x : Operand} {g : Option Nat} {n c i sz by_ : Nat} {es : List (List AV)} {zs : List AV} {z : Value} {h' : List HA} (ho : o.op = .call ⟨.builtin .clear, #[x], #[t]⟩) (hd : o.dst = none) (hx : ev env x = some (.v (tailV g n c i sz))) (hs : Spl h (.sl g c e sz es) h') (hn : n = es.length) (hi : i ≤ n)
    (ht : elemOf P t = some (e, sz, by_)) (hz : zeroOf P e = some z) (h1 : z.cells.toList.all (·.oneCell') = true) (hzs : zs.length = sz)
    (hrep : ∀ (F : Nat → Prop) (w : World) (j : Nat) av x, zs[j]? = some av → z.cells[j]? = some x → Rep F w av x)
    (hk : K env (.sl g c e sz (es.take i ++ List.replicate (n - i) zs) :: h')) : AOp P N o env h K := by
  subst hn
  intro B F a w Q s ex hdef
  obtain ⟨hu, ii, z', hii, hzz, hisz, hzs', h0, hby⟩ := elemOf_spec ht
  have hze : z' = z := by
    unfold zeroOf at hz
    rw [hii, Option.bind_some, hzz] at hz
    exact Option.some.inj hz
  subst hze
  have hxv := s.ev hx
  generalize hv : a.eval x = vx at hxv
  cases hxv
  have hown := own_cap (s.r.rep _ (spl_mem hs))
  by_cases hni : es.length = i
  · have hsame : es.take i ++ List.replicate (es.length - i) zs = es := by rw [← hni, Nat.sub_self, List.take_length]; simp
    rw [hsame] at hk
    have hsl : ∀ q : Option Addr, (Builtin.clear_ #[t] 0 #[.slice q 0 (c - i)]).run P w = .ok (.tuple #[]) w := fun q => by
      cases q <;> simp [Builtin.clear_, run_underlying hu]
    have ht0 : tailV g es.length c i sz = .slice (if c = i then g.map fun b => ⟨b, 0, none⟩ else g.map fun b => ⟨b, i * sz, none⟩) 0 (c - i) := by rw [tailV, hni, Nat.sub_self]
    have hrun : (execOp a.eval o).run P w = .ok (.value (.tuple #[])) w := by
      generalize (if c = i then g.map fun b => (⟨b, 0, none⟩ : Addr) else g.map fun b => ⟨b, i * sz, none⟩) = q at ht0
      cases q <;> simp [execOp, ho, resolve, invoke, builtin, hv, ht0, Builtin.clear_, run_underlying hu]
    have hR : R F (.sl g c e sz es :: h') w := s.r.perm hs.perm
    have hE : Ext F h w F (.sl g c e sz es :: h') w := Ext.permR hs.perm (.refl F h w)
    unfold Oper.wp
    rw [hrun, Oper.upon_value, hd]
    exact ⟨hdef, F, env, _, hk, s.go hE hR, ex.trans hE⟩
  · cases g with
    | none => have := (hown.2 rfl).2; subst this; simp at hni hi; omega
    | some b =>
      obtain ⟨cur, hg, hnc, hcm, hcs, hzz', hone, hrp⟩ := row_of (s.r.rep _ (spl_mem hs))
      have hci : ¬ c = i := by omega
      have htv : tailV (some b) es.length c i sz = .slice (some ⟨b, i * sz, none⟩) (es.length - i) (c - i) := by rw [tailV, if_neg hci]; rfl
      have hmul : i * sz + (es.length - i) * sz = es.length * sz := by rw [← Nat.add_mul]; congr 1; omega
      have hcl : es.length * sz ≤ cur.size := by rw [hcs]; exact Nat.mul_le_mul_right _ hnc
      have hsize : (Builtin.zeroCells z'.cells (es.length - i)).size = (es.length - i) * sz := by rw [size_zeroCells', hzs']
      have hcell : ∀ k, k < (es.length - i) * sz → (Builtin.zeroCells z'.cells (es.length - i))[k]? = z'.cells[k % sz]? := fun k hk => by
        have hm : k % sz < z'.cells.size := by rw [hzs']; exact Nat.mod_lt _ h0
        simp only [Builtin.zeroCells, Array.getElem?_map, hzs']
        rw [Array.getElem?_eq_getElem (by simpa using hk)]
        simp only [Array.getElem_range, Option.map_some]
        rw [Array.getElem?_eq_getElem hm]
        exact congrArg some (getElem!_pos z'.cells (k % sz) hm)
      have hz1 : ∀ x ∈ Builtin.zeroCells z'.cells (es.length - i), x.oneCell' = true := fun x hx => by
        obtain ⟨k, hk⟩ := Array.mem_iff_getElem?.1 hx
        have hkl : k < (es.length - i) * sz := by have := (Array.getElem?_eq_some_iff.1 hk).1; omega
        rw [hcell k hkl] at hk
        exact List.all_eq_true.1 h1 x (by simpa using Array.mem_of_getElem? hk)
      have hst := run_storeCells_at P b (i * sz) e (Builtin.zeroCells z'.cells (es.length - i)).toList 0 cur w hg (by simp only [Array.length_toList, hsize]; omega) (by simpa using hz1)
      simp only [Nat.add_zero, Array.length_toList] at hst
      have hrun : (execOp a.eval o).run P w = .ok (.value (.tuple #[])) (w.setRow b (cur.toList.take (i * sz) ++ (Builtin.zeroCells z'.cells (es.length - i)).toList ++ cur.toList.drop (i * sz + (Builtin.zeroCells z'.cells (es.length - i)).size)).toArray) := by
        obtain ⟨k, hk2⟩ : ∃ k, es.length - i = k + 1 := ⟨es.length - i - 1, by omega⟩
        rw [hk2] at hst htv ⊢
        simp [execOp, ho, resolve, invoke, builtin, hv, htv, Builtin.clear_, run_underlying hu, zeroValue, typeInfo, hii, hzz, hst]
      obtain ⟨hR, hE⟩ := s.r.wrote (es' := es.take i ++ List.replicate (es.length - i) zs) (cells := Builtin.zeroCells z'.cells (es.length - i)) (q := i * sz) hs hg (by omega) hz1 (by simp; omega) (by
        intro y hy
        rcases List.mem_append.1 hy with hy | hy
        · exact hzz' y (List.mem_of_mem_take hy)
        · rw [List.eq_of_mem_replicate hy, hzs]) (by
        intro k j y av hk hj
        have hyl : y.length = sz := by
          rcases List.mem_append.1 (List.mem_of_getElem? hk) with hy | hy
          · exact hzz' y (List.mem_of_mem_take hy)
          · rw [List.eq_of_mem_replicate hy, hzs]
        have hjl : j < sz := by rw [← hyl]; exact (List.getElem?_eq_some_iff.1 hj).1
        have hil : (es.take i).length = i := by rw [List.length_take]; omega
        by_cases hki : k < i
        · right
          have h3 := Nat.mul_le_mul_right sz (show k + 1 ≤ i by omega)
          rw [Nat.add_mul, Nat.one_mul] at h3
          refine ⟨by omega, y, ?_, hj⟩
          rw [List.getElem?_append_left (by omega), List.getElem?_take_of_lt hki] at hk
          exact hk
        · left
          have hkl : k < es.length := by
            have := (List.getElem?_eq_some_iff.1 hk).1
            simp at this
            omega
          have h3 := Nat.mul_le_mul_right sz (show i ≤ k by omega)
          have h4 := idx_lt hkl hjl
          refine ⟨by omega, by omega, fun x hx => ?_⟩
          have hy : y = zs := by
            rw [List.getElem?_append_right (by omega)] at hk
            exact List.eq_of_mem_replicate (List.mem_of_getElem? hk)
          subst hy
          rw [hcell _ (by omega)] at hx
          have hmod : (k * sz + j - i * sz) % sz = j := by
            have : k * sz + j - i * sz = (k - i) * sz + j := by rw [Nat.sub_mul]; omega
            rw [this, Nat.mul_comm, Nat.mul_add_mod, Nat.mod_eq_of_lt hjl]
          rw [hmod] at hx
          exact hrep F w j av x hj hx)
      unfold Oper.wp
      rw [hrun, Oper.upon_value, hd]
      exact ⟨hdef, F, env, _, hk, s.go hE hR, ex.trans hE⟩
end A
end Go.Proofs.Ytnabkchagjjjnaa
