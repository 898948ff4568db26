/- Maps whose keys are structs or arrays: made, read, written, ranged over. Over any program. -/
import Derived.Test.YtmcannmjielalaaAbs25
import Derived.WideKeyRuns
set_option linter.unusedVariables false
set_option linter.unusedSimpArgs false
set_option linter.unusedSectionVars false
namespace Go.Proofs.Ytmcannmjielalaa
namespace A

variable {P : Program} {N : Nat} {env : Env} {h : List HA} {K : Cont} {X : List (Nat × Cont)} {Rt : Cont}

/-! ### Lists of keys and values -/
section
variable {κ β : Type} [DecidableEq κ]
def kGet : List (κ × β) → κ → Option β
  | [], _ => none
  | (k, v) :: t, n => if n = k then some v else kGet t n
def kPut : List (κ × β) → κ → β → List (κ × β)
  | [], n, v => [(n, v)]
  | (k, u) :: t, n, v => if n = k then (n, v) :: t else (k, u) :: kPut t n v
theorem kPut_new : ∀ {m : List (κ × β)} {n : κ} {v : β}, kGet m n = none → kPut m n v = m ++ [(n, v)]
  | [], n, v, _ => rfl
  | (k, u) :: t, n, v, h => by
    by_cases hn : n = k
    · simp [kGet, hn] at h
    · simp only [kGet, hn, if_false] at h
      simp only [kPut, hn, if_false, List.cons_append]
      rw [kPut_new h]
theorem kPut_old : ∀ {m : List (κ × β)} {n : κ} {v u : β} {i : Nat}, m[i]? = some (n, u) → (∀ j p, j < i → m[j]? = some p → n ≠ p.1) → kPut m n v = m.set i (n, v)
  | [], n, v, u, i, h, _ => by simp at h
  | (k, u') :: t, n, v, u, 0, h, _ => by simp at h; obtain ⟨rfl, rfl⟩ := h; simp [kPut]
  | (k, u') :: t, n, v, u, i + 1, h, hj => by
    have hn : ¬ n = k := hj 0 (k, u') (by omega) rfl
    simp only [kPut, hn, if_false, List.set_cons_succ]
    rw [kPut_old (by simpa using h) (fun j p hlt hk => hj (j + 1) p (by omega) (by simpa using hk))]
theorem kGet_put {n k : κ} {v : β} : ∀ {m : List (κ × β)}, kGet (kPut m k v) n = if n = k then some v else kGet m n
  | [] => by simp [kPut, kGet]
  | (j, u) :: t => by
    simp only [kPut]
    by_cases h : k = j
    · subst h
      rw [if_pos rfl]
      simp only [kGet]
      split <;> rfl
    · rw [if_neg h]
      simp only [kGet, kGet_put (m := t)]
      by_cases h2 : n = j
      · subst h2; rw [if_pos rfl, if_neg (fun e => h e.symm), if_pos rfl]
      · rw [if_neg h2, if_neg h2]
theorem kGet_mem {n : κ} : ∀ {m : List (κ × β)}, (kGet m n).isSome = true ↔ n ∈ m.map Prod.fst
  | [] => by simp [kGet]
  | (k, v) :: t => by
    have ih := kGet_mem (n := n) (m := t)
    simp only [kGet, List.map_cons, List.mem_cons]
    by_cases h : n = k
    · subst h; simp
    · rw [if_neg h, ih]; simp [h]
theorem kPut_keys {n k : κ} {v : β} {m : List (κ × β)} : n ∈ (kPut m k v).map Prod.fst ↔ n = k ∨ n ∈ m.map Prod.fst := by
  rw [← kGet_mem, kGet_put, ← kGet_mem]
  split <;> simp_all
theorem kPut_nodup {k : κ} {v : β} : ∀ {m : List (κ × β)}, (m.map Prod.fst).Nodup → ((kPut m k v).map Prod.fst).Nodup
  | [], _ => by simp [kPut]
  | (j, u) :: t, h => by
    have h' := List.nodup_cons.1 (show (j :: t.map Prod.fst).Nodup from h)
    simp only [kPut]
    by_cases hk : k = j
    · subst hk; rw [if_pos rfl]; exact h
    · rw [if_neg hk]
      refine List.nodup_cons.2 ⟨fun hm => ?_, kPut_nodup h'.2⟩
      rcases kPut_keys.1 hm with e | e
      · exact hk e.symm
      · exact h'.1 e
theorem kPut_len {k : κ} {v : β} : ∀ {m : List (κ × β)}, (kPut m k v).length ≤ m.length + 1
  | [] => by simp [kPut]
  | (j, u) :: t => by
    have := kPut_len (k := k) (v := v) (m := t)
    simp only [kPut]
    split <;> simp <;> omega
theorem kGet_at {m : List (κ × β)} {i : Nat} {k : κ} {v : β} (h : (m.map Prod.fst).Nodup) (hi : m[i]? = some (k, v)) : kGet m k = some v := by
  induction m generalizing i with
  | nil => simp at hi
  | cons p t ih =>
    obtain ⟨j, u⟩ := p
    have h' := List.nodup_cons.1 (show (j :: t.map Prod.fst).Nodup from h)
    cases i with
    | zero => simp at hi; obtain ⟨rfl, rfl⟩ := hi; simp [kGet]
    | succ i =>
      simp at hi
      have hm : k ∈ t.map Prod.fst := List.mem_map.2 ⟨_, List.mem_of_getElem? hi, rfl⟩
      simp only [kGet]
      rw [if_neg (fun e : k = j => h'.1 (e ▸ hm)), ih h'.2 hi]
end

/-! ### Keys -/
/-- A type of keys: its plan, and the cells of a key. -/
structure KeyT (P : Program) (kt : TypeId) {κ : Type} [DecidableEq κ] (kf : κ → List Value) (n : Nat) (l : List (Nat × EQ)) : Prop where
  pln : eqPlan P kt = some (n, l)
  wide : (match P.underlying kt with | some (.array _ _) | some (.struct _) => true | _ => false) = true
  len : ∀ a, (kf a).length = n
  eq : ∀ a b, eqLeaves l ((kf a).map .v) ((kf b).map .v) = some (decide (a = b))
  one : ∀ a, (kf a).all (·.oneCell') = true
  bits : ∀ a, (kf a).all (fun x => Instr.sameBits 9999 x x) = true
def keyV {κ : Type} (kf : κ → List Value) (a : κ) : Value := .agg (kf a).toArray
def keyA {κ : Type} (kf : κ → List Value) (a : κ) : AV := .agg ((kf a).map .v)
theorem rep_keyA {κ : Type} {kf : κ → List Value} {a : κ} {F : Nat → Prop} {w : World} {x : Value} (r : Rep F w (keyA kf a) x) : x = keyV kf a := by
  cases r with
  | agg _ xs hl h1 hR =>
    have : xs = (kf a).toArray := by
      apply Array.ext (by simpa using hl)
      intro i hi hi'
      have hi2 : i < (kf a).length := by simpa using hi'
      have := hR i (.v (kf a)[i]) xs[i] (by simp [hi2]) (Array.getElem?_eq_getElem hi)
      generalize hz : xs[i] = z at this
      cases this
      simp
    rw [this]; rfl
theorem rep_keyV {κ : Type} {kf : κ → List Value} {a : κ} (h1 : (kf a).all (·.oneCell') = true) (F : Nat → Prop) (w : World) : Rep F w (keyA kf a) (keyV kf a) :=
  .agg _ _ (by simp) (fun x hx => List.all_eq_true.1 h1 x (by simpa using hx)) (fun j av x hj hx => by
    rw [List.getElem?_map] at hj
    simp only [List.getElem?_toArray] at hx
    rw [hx] at hj
    simp at hj
    subst hj
    exact .v _)

section
variable {xs : Array Value}
theorem run_checkPlan (em : Bool) : ∀ (f : Nat) (t : TypeId) (o : Nat) (l : List (Nat × EQ)) (d : Nat) (x : Value) (w : World), f ≤ d → plan P f t o = some l → IsPart P xs t o x → (Instr.checkKey em d t x).run P w = .ok () w := by
  intro f
  induction f with
  | zero => intro t o l d x w _ hp; cases hp
  | succ f ih =>
    intro t o l d x w hd hp hx
    obtain ⟨d, rfl⟩ : ∃ e, d = e + 1 := ⟨d - 1, by omega⟩
    obtain ⟨n, g, ht, hxn, hx⟩ := hx
    rw [plan, ht] at hp
    split at hp
    · rename_i k n0 hu hn
      simp [Instr.checkKey, run_underlying' hu]
    · rename_i n0 hu hn
      simp [Instr.checkKey, run_underlying' hu]
    · rename_i n0 hu hn
      simp [Instr.checkKey, run_underlying' hu]
    · rename_i e n0 hu hn
      simp [Instr.checkKey, run_underlying' hu]
    · rename_i fs n0 hu hn
      cases hn
      split at hp
      case isTrue => cases hp
      rename_i hst
      have hx : x = .agg (xs.extract o (o + n)) := by simpa using hx
      subst hx
      rw [Instr.checkKey]
      simp only [Sem.run_bind, run_underlying' hu, Result.andThen_ok]
      rw [← Array.forIn_toList]
      generalize fs.toList = fl at hp
      clear hu
      induction fl generalizing l with
      | nil => simp
      | cons fd r ihf =>
        rw [planFs] at hp
        split at hp
        case h_2 => cases hp
        rename_i m g0 l1 l2 hn hty hg hr
        split at hp
        case isFalse => cases hp
        rename_i hfit
        obtain ⟨xi, hxi, px⟩ := run_part (xs := xs) (o := o) hty (plan_pos hty hg) hfit hxn w
        have hrun := ih fd.type (o + fd.offset) l1 d xi w (by omega) hg px
        have hne : fd.name ≠ "_" := by simpa using hn
        simp only [List.forIn_cons, if_pos hne, Sem.run_bind, hxi, hrun, Result.andThen_ok, Sem.run_pure]
        exact ihf l2 hr
    · rename_i k e n0 hu hn
      cases hn
      split at hp
      case h_2 => cases hp
      rename_i m g0 hty
      split at hp
      case isFalse => cases hp
      rename_i hfit
      have hx : x = .agg (xs.extract o (o + n)) := by simpa using hx
      subst hx
      obtain ⟨i, hi, him⟩ : ∃ i, P.info? e = some i ∧ i.size = m := by
        unfold tyOf at hty
        cases hi : P.info? e with
        | none => rw [hi] at hty; split at hty <;> simp_all
        | some i => exact ⟨i, rfl, by rw [hi] at hty; split at hty <;> simp_all⟩
      rw [Instr.checkKey]
      simp only [Sem.run_bind, run_underlying' hu, Result.andThen_ok]
      simp only [Std.Legacy.Range.forIn_eq_forIn_range', Std.Legacy.Range.size, Nat.sub_zero, Nat.add_one_sub_one, Nat.div_one]
      rw [List.range_eq_range'] at hp
      have hlt : ∀ i ∈ List.range' 0 k, i < k := fun i hi => by simp [List.mem_range'] at hi; omega
      generalize List.range' 0 k = is at hp hlt
      induction is generalizing l with
      | nil => simp
      | cons j r ihf =>
        rw [planIs] at hp
        split at hp
        case h_2 => cases hp
        rename_i l1 l2 hg hr
        have hjk : j * m + m ≤ n := by
          have : (j + 1) * m ≤ k * m := Nat.mul_le_mul_right m (hlt j (by simp))
          rw [Nat.succ_mul] at this
          omega
        obtain ⟨xi, hxi, px⟩ := run_part (xs := xs) (o := o) hty (plan_pos hty hg) hjk hxn w
        have hrun := ih e (o + j * m) l1 d xi w (by omega) hg px
        have hsz : (sizeOf e).run P w = .ok m w := run_sizeOf hty w
        simp only [List.forIn_cons, Sem.run_bind, hsz, hxi, hrun, Result.andThen_ok, Sem.run_pure]
        exact ihf l2 hr (fun i hi => hlt i (by simp [hi]))
    · cases hp
end

section
variable {κ : Type} [DecidableEq κ] {kf : κ → List Value} {kt : TypeId} {n : Nat} {l : List (Nat × EQ)}
theorem KeyT.part (k : KeyT P kt kf n l) (a : κ) : IsPart P (kf a).toArray kt 0 (keyV kf a) ∧ plan P 10 kt 0 = some l := by
  have hp := k.pln
  unfold eqPlan at hp
  split at hp
  case isTrue => cases hp
  split at hp
  case h_2 => cases hp
  rename_i n0 l0 hty hp'
  cases hp
  refine ⟨⟨n, true, hty, by simp [k.len a], .inl ⟨rfl, ?_⟩⟩, hp'⟩
  unfold keyV
  congr 1
  rw [Nat.zero_add]
  apply Array.ext'
  simp [← k.len a]
theorem KeyT.check (k : KeyT P kt kf n l) (a : κ) (em : Bool) (w : World) : (Instr.checkKey em 10000 kt (keyV kf a)).run P w = .ok () w :=
  run_checkPlan em 10 kt 0 l 10000 _ w (by decide) (k.part a).2 (k.part a).1
theorem KeyT.equal (k : KeyT P kt kf n l) (a b : κ) (w : World) : (Op.equal kt (keyV kf a) (keyV kf b)).run P w = .ok (decide (a = b)) w :=
  run_plan (F := fun _ => False) (w0 := w) (cs := (kf a).map .v) (ds := (kf b).map .v) (xs := (kf a).toArray) (ys := (kf b).toArray)
    (fun j av x hj hx => by rw [List.getElem?_map] at hj; simp only [List.getElem?_toArray] at hx; rw [hx] at hj; simp at hj; subst hj; exact .v _)
    (fun j av x hj hx => by rw [List.getElem?_map] at hj; simp only [List.getElem?_toArray] at hx; rw [hx] at hj; simp at hj; subst hj; exact .v _)
    10 kt 0 l _ Op.maxDepth _ _ w (by decide) (k.part a).2 (k.eq a b) (k.part a).1 (k.part b).1
theorem KeyT.stays (k : KeyT P kt kf n l) (a : κ) (w : World) : (Instr.keyThatStays (keyV kf a) (keyV kf a)).run P w = .ok (keyV kf a) w := by
  have hb := k.bits a
  have : Instr.sameBits 10000 (keyV kf a) (keyV kf a) = true := by
    rw [show (10000 : Nat) = 9999 + 1 from rfl]
    simp only [keyV, Instr.sameBits, beq_self_eq_true, Bool.true_and]
    rw [List.all_eq_true]
    intro p hp
    obtain ⟨i, hi, rfl⟩ := List.getElem_of_mem hp
    simp only [List.getElem_zip]
    exact List.all_eq_true.1 hb _ (by simp)
  unfold Instr.keyThatStays
  simp [this]

variable {β : Type} {c : β → AV}
def kvKM (kf : κ → List Value) (c : β → AV) (m : List (κ × β)) : List (Value × AV) := m.map fun p => (keyV kf p.1, c p.2)
def EntsK (kf : κ → List Value) (c : β → AV) (F : Nat → Prop) (w : World) (clock : Nat) : List MapEntry → List (κ × β) → Prop
  | [], [] => True
  | e :: es, kv :: t => (e.key = keyV kf kv.1 ∧ Rep F w (c kv.2) e.val ∧ e.born < clock) ∧ EntsK kf c F w clock es t
  | _, _ => False
theorem entsK_of {F : Nat → Prop} {w : World} {clock : Nat} : ∀ (es : List MapEntry) (m : List (κ × β)), es.length = m.length →
    (∀ (i : Nat) kv e, m[i]? = some kv → es[i]? = some e → e.key = keyV kf kv.1 ∧ Rep F w (c kv.2) e.val ∧ e.born < clock) → EntsK kf c F w clock es m
  | [], [], _, _ => trivial
  | e :: es, kv :: t, hl, hh => ⟨hh 0 kv e rfl rfl, entsK_of es t (by simpa using hl) (fun i kv e a b => hh (i + 1) kv e (by simpa using a) (by simpa using b))⟩
  | [], _ :: _, hl, _ => by simp at hl
  | _ :: _, [], hl, _ => by simp at hl
theorem entsK_to {F : Nat → Prop} {w : World} {clock : Nat} : ∀ {es : List MapEntry} {m : List (κ × β)}, EntsK kf c F w clock es m →
    es.length = m.length ∧ ∀ (i : Nat) kv e, m[i]? = some kv → es[i]? = some e → e.key = keyV kf kv.1 ∧ Rep F w (c kv.2) e.val ∧ e.born < clock
  | [], [], _ => ⟨rfl, fun i kv e a => by simp at a⟩
  | e :: es, kv :: t, ⟨h1, h2⟩ => by
    obtain ⟨h3, h4⟩ := entsK_to h2
    refine ⟨by simp [h3], fun i kv' e' a b => ?_⟩
    cases i with
    | zero => simp at a b; subst a; subst b; exact h1
    | succ i => exact h4 i kv' e' (by simpa using a) (by simpa using b)
  | [], _ :: _, h => h.elim
  | _ :: _, [], h => h.elim
theorem find_asking (k : KeyT P kt kf n l) {F : Nat → Prop} {w0 : World} {clock : Nat} {a : κ} : ∀ {es : List MapEntry} {m : List (κ × β)} (s : Nat), EntsK kf c F w0 clock es m →
    ((∀ w, (Instr.findAsking kt (keyV kf a) es s).run P w = .ok none w) ∧ kGet m a = none) ∨
    ∃ i e v, (∀ w, (Instr.findAsking kt (keyV kf a) es s).run P w = .ok (some (s + i, e.val)) w) ∧ es[i]? = some e ∧ m[i]? = some (a, v) ∧ kGet m a = some v ∧ (∀ j p, j < i → m[j]? = some p → a ≠ p.1)
  | [], [], s, _ => .inl ⟨fun w => by simp [Instr.findAsking], rfl⟩
  | e :: es, kv :: t, s, ⟨⟨h1, h2, h3⟩, h4⟩ => by
    have heq := fun w => k.equal a kv.1 w
    by_cases hn : a = kv.1
    · subst hn
      refine .inr ⟨0, e, kv.2, fun w => by simp [Instr.findAsking, h1, heq], rfl, rfl, by simp [kGet], fun j kv hj => by omega⟩
    · rcases find_asking k (a := a) (s + 1) h4 with ⟨h5, h6⟩ | ⟨i, e', v, h5, h6, h7, h8, h9⟩
      · exact .inl ⟨fun w => by simp [Instr.findAsking, h1, heq, hn, h5], by simp [kGet, hn, h6]⟩
      · refine .inr ⟨i + 1, e', v, fun w => by simp [Instr.findAsking, h1, heq, hn, h5]; omega, by simpa using h6, by simpa using h7, by simp [kGet, hn, h8], fun j p hj hk => ?_⟩
        cases j with
        | zero => simp at hk; subst hk; exact hn
        | succ j => exact h9 j p (by omega) (by simpa using hk)
  | [], _ :: _, _, h => h.elim
  | _ :: _, [], _, h => h.elim
theorem find_entsK (k : KeyT P kt kf n l) {F : Nat → Prop} {w0 : World} {clock : Nat} {a : κ} {es : List MapEntry} {m : List (κ × β)} (he : EntsK kf c F w0 clock es m) :
    ((∀ w, (Instr.findKey kt (keyV kf a) es).run P w = .ok none w) ∧ kGet m a = none) ∨
    ∃ i e v, (∀ w, (Instr.findKey kt (keyV kf a) es).run P w = .ok (some (i, e.val)) w) ∧ es[i]? = some e ∧ m[i]? = some (a, v) ∧ kGet m a = some v ∧ (∀ j p, j < i → m[j]? = some p → a ≠ p.1) := by
  rcases find_asking k (a := a) 0 he with ⟨h1, h2⟩ | ⟨i, e, v, h1, h2⟩
  · exact .inl ⟨fun w => by rw [run_findKey_eq w k.wide]; exact h1 w, h2⟩
  · exact .inr ⟨i, e, v, fun w => by rw [run_findKey_eq w k.wide, h1 w, Nat.zero_add], h2⟩

theorem mapK_ents {F : Nat → Prop} {w : World} {b : Nat} {m : List (κ × β)} (hr : HARep F w (.mapK b (kvKM kf c m))) : ∃ ents clock, w.heap[b]? = some (.map ents clock) ∧ EntsK kf c F w clock ents.toList m ∧ (∀ (i j : Nat) e f, ents[i]? = some e → ents[j]? = some f → e.born = f.born → i = j) := by
  obtain ⟨ents, clock, h1, h2, h3, h4⟩ := hr
  refine ⟨ents, clock, h1, entsK_of _ _ (by simpa [kvKM] using h2) (fun i kv e a b => ?_), h4⟩
  exact h3 i (keyV kf kv.1, c kv.2) e (by simp [kvKM, a]) (by simpa using b)
theorem own_mapK {b : Nat} {kvs : List (Value × AV)} {h' : List HA} (hs : Spl h (.mapK b kvs) h') : b ∈ owns h := owns_spl hs (by simp [HA.own])

theorem mapK_set {F : Nat → Prop} {w : World} {b : Nat} {m m' : List (κ × β)} {h' : List HA} {ents' : Array MapEntry} {clock' : Nat} (r : R F h w) (hs : Spl h (.mapK b (kvKM kf c m)) h')
    (hl : ents'.size = m'.length) (he : ∀ (i : Nat) kv e, m'[i]? = some kv → ents'[i]? = some e → e.key = keyV kf kv.1 ∧ Rep F w (c kv.2) e.val ∧ e.born < clock') (hb : ∀ (i j : Nat) e f, ents'[i]? = some e → ents'[j]? = some f → e.born = f.born → i = j) :
    R F (.mapK b (kvKM kf c m') :: h') { w with heap := w.heap.setIfInBounds b (.map ents' clock') } ∧ Ext F h w F (.mapK b (kvKM kf c m') :: h') { w with heap := w.heap.setIfInBounds b (.map ents' clock') } := by
  have hlt := r.lt b (own_mapK hs)
  refine r.upd (x' := .mapK b (kvKM kf c m')) hs rfl rfl rfl rfl (by simp) (fun k hk => setObj_other (by simpa [HA.own] using hk)) ⟨ents', clock', setObj_heap hlt, by simpa [kvKM] using hl, fun i kv e a d => ?_, hb⟩
  simp only [kvKM, List.getElem?_map, Option.map_eq_some_iff] at a
  obtain ⟨p, hp, rfl⟩ := a
  obtain ⟨h1, h2, h3⟩ := he i p e hp d
  exact ⟨h1, h2.mono (fun _ h => h) (fun k hk => setObj_other (fun e => (r.sep k hk).2 (e ▸ own_mapK hs))), h3⟩

/-! ### Operations -/
variable {o : Oper} {t et : TypeId} {x i y : Operand} {b : Nat} {m : List (κ × β)} {a : κ} {z : Value} {h' : List HA} {v : β}
/-- A map without keys. -/
theorem qMK {d : Nat} (kf : κ → List Value) (c : β → AV) (ho : o.op = .makeMap t none) (hk : ∀ b, K ((d, .v (.map (some b))) :: env) (.mapK b (kvKM kf c []) :: h)) (hd : o.dst = some d := by rfl) (hN : d < N := by decide) : AOpQ P N o env h K := by
  intro B F a w Q s e hdef
  obtain ⟨hr, he, hag⟩ := s.r.new (o := .map #[] 0) (x := .mapK w.heap.size (kvKM kf c [])) rfl ⟨#[], 0, heap_new w _, rfl, fun i kv e a => by simp [kvKM] at a, fun i j e f a => by simp at a⟩
  have hrun : (execOp a.eval o).run P w = .ok (.value (.map (some w.heap.size))) (w.alloc (.map #[] 0)) := by simp [execOp, ho, Instr.makeMap]
  unfold Oper.wp
  rw [hrun, Oper.upon_value, hd]
  exact ⟨hdef, F, _, _, hk _, s.put he hr hN (.v _), e.trans he, hag, fun _ h => h, fun b hb => .inl (by simp [hb])⟩
/-- 'm[k]' -/
theorem rKG (k : KeyT P kt kf n l) (hm : P.underlying t = some (.map kt et)) (hz : zeroOf P et = some z) (z0 : β) (hc : Cast (.v z) (c z0)) (ho : o.op = .lookup t x i false := by rfl) (hx : ev env x = some (.v (.map (some b))) := by rfl) (hi : ev env i = some (keyA kf a) := by rfl) (hs : Spl h (.mapK b (kvKM kf c m)) h' := by repeat constructor) : ARead P N o env h (c ((kGet m a).getD z0)) := by
  intro F ac w s
  have hr := s.ev hx
  have hri := rep_keyA (s.ev hi)
  generalize hv : ac.eval x = v at hr
  cases hr
  obtain ⟨ents, clock, h3, h4, _⟩ := mapK_ents (s.r.rep _ (spl_mem hs))
  have hobj : ∀ w', Agree F h w w' → (getObj b).run P w' = .ok (.map ents clock) w' := fun w' hw => by
    have := hw b (.inr (own_mapK hs))
    simp only [getObj, Sem.run, this, h3]
  rcases find_entsK k (a := a) h4 with ⟨h5, h6⟩ | ⟨j, e, v, h5, h6, h7, h8, _⟩
  · rw [h6]
    refine ⟨z, hc F w z (.v z), fun w' hw => ?_⟩
    simp [execOp, ho, hv, hri, Instr.lookup, run_underlying' hm, hobj w' hw, k.check, h5, run_zero hz]
  · rw [h8]
    have h9 := ((entsK_to h4).2 j _ e h7 h6).2.1
    refine ⟨e.val, h9, fun w' hw => ?_⟩
    simp [execOp, ho, hv, hri, Instr.lookup, run_underlying' hm, hobj w' hw, k.check, h5]
/-- 'v, ok := m[k]' -/
theorem rKGo (k : KeyT P kt kf n l) (hm : P.underlying t = some (.map kt et)) (hz : zeroOf P et = some z) (z0 : β) (hc : Cast (.v z) (c z0)) (ho : o.op = .lookup t x i true := by rfl) (hx : ev env x = some (.v (.map (some b))) := by rfl) (hi : ev env i = some (keyA kf a) := by rfl) (hs : Spl h (.mapK b (kvKM kf c m)) h' := by repeat constructor) : ARead P N o env h (.tup [c ((kGet m a).getD z0), .bool (kGet m a).isSome]) := by
  intro F ac w s
  have hr := s.ev hx
  have hri := rep_keyA (s.ev hi)
  generalize hv : ac.eval x = v at hr
  cases hr
  obtain ⟨ents, clock, h3, h4, _⟩ := mapK_ents (s.r.rep _ (spl_mem hs))
  have hobj : ∀ w', Agree F h w w' → (getObj b).run P w' = .ok (.map ents clock) w' := fun w' hw => by
    have := hw b (.inr (own_mapK hs))
    simp only [getObj, Sem.run, this, h3]
  have two : ∀ (a b : AV) (x y : Value), Rep F w a x → Rep F w b y → Rep F w (.tup [a, b]) (.tuple #[x, y]) := fun a b x y ha hb => .tup _ _ rfl (fun j av z hj hz => by
    match j with
    | 0 => simp at hj hz; subst hj; subst hz; exact ha
    | 1 => simp at hj hz; subst hj; subst hz; exact hb
    | j + 2 => simp at hj)
  rcases find_entsK k (a := a) h4 with ⟨h5, h6⟩ | ⟨j, e, v, h5, h6, h7, h8, _⟩
  · rw [h6]
    refine ⟨.tuple #[z, .bool false], two _ _ _ _ (hc F w z (.v z)) (.v _), fun w' hw => ?_⟩
    simp [execOp, ho, hv, hri, Instr.lookup, run_underlying' hm, hobj w' hw, k.check, h5, run_zero hz]
  · rw [h8]
    have h9 := ((entsK_to h4).2 j _ e h7 h6).2.1
    refine ⟨.tuple #[e.val, .bool true], two _ _ _ _ h9 (.v _), fun w' hw => ?_⟩
    simp [execOp, ho, hv, hri, Instr.lookup, run_underlying' hm, hobj w' hw, k.check, h5]
/-- 'len(m)' -/
theorem rKLen (hm : P.underlying t = some (.map kt et)) (ho : o.op = .call ⟨.builtin .len, #[x], #[t]⟩ := by rfl) (hx : ev env x = some (.v (.map (some b))) := by rfl) (hs : Spl h (.mapK b (kvKM kf c m)) h' := by repeat constructor) : ARead P N o env h (.int m.length) := by
  intro F ac w s
  have hr := s.ev hx
  generalize hv : ac.eval x = v at hr
  cases hr
  obtain ⟨ents, clock, h3, h4, _⟩ := mapK_ents (s.r.rep _ (spl_mem hs))
  have hl := (entsK_to h4).1
  refine ⟨.int .i64 m.length, .v _, fun w' hw => ?_⟩
  have hobj : (getObj b).run P w' = .ok (.map ents clock) w' := by
    have := hw b (.inr (own_mapK hs))
    simp only [getObj, Sem.run, this, h3]
  simp only [Array.length_toList] at hl
  simp [execOp, ho, resolve, invoke, builtin, hv, Builtin.len_, run_underlying' hm, hobj, goInt, hl]
/-- 'm[k] = v' -/
theorem oKP (k : KeyT P kt kf n l) (ho : o.op = .mapUpdate t x i y) (hd : o.dst = none) (hx : ev env x = some (.v (.map (some b)))) (hi : ev env i = some (keyA kf a)) (hm : P.underlying t = some (.map kt et)) (hk : K env (.mapK b (kvKM kf c (kPut m a v)) :: h')) (hs : Spl h (.mapK b (kvKM kf c m)) h' := by repeat constructor) (hy : ev env y = some (c v) := by rfl) : AOp P N o env h K := by
  intro B F ac w Q s ex hdef
  have hr := s.ev hx
  have hri := rep_keyA (s.ev hi)
  generalize hv : ac.eval x = vx at hr
  cases hr
  have hyv := s.ev hy
  obtain ⟨ents, clock, h3, h4, h5⟩ := mapK_ents (s.r.rep _ (spl_mem hs))
  obtain ⟨hl, hel⟩ := entsK_to h4
  simp only [Array.length_toList, Array.getElem?_toList] at hl hel
  have hobj : (getObj b).run P w = .ok (.map ents clock) w := by simp only [getObj, Sem.run, h3]
  have hset : ∀ obj, (setObj b obj).run P w = .ok () { w with heap := w.heap.setIfInBounds b obj } := fun obj => by simp only [setObj, Sem.run, h3]
  unfold Oper.wp
  rcases find_entsK k (a := a) h4 with ⟨h6, h7⟩ | ⟨j, e, av0, h6, h8, h9, h10, h11⟩
  · obtain ⟨hR, hE⟩ := mapK_set (m' := kPut m a v) (ents' := ents.push { key := keyV kf a, val := ac.eval y, born := clock }) (clock' := clock + 1) s.r hs (by rw [kPut_new h7]; simp [hl]) (fun i kv e hkv he => by
      rw [kPut_new h7] at hkv
      rw [Array.getElem?_push] at he
      by_cases hi : i = ents.size
      · rw [if_pos hi] at he
        rw [hi, hl, List.getElem?_append_right (Nat.le_refl _)] at hkv
        simp at hkv he
        subst hkv; subst he
        exact ⟨rfl, hyv, by simp⟩
      · rw [if_neg hi] at he
        have hlt := (Array.getElem?_eq_some_iff.1 he).1
        rw [List.getElem?_append_left (by omega)] at hkv
        obtain ⟨a1, a2, a3⟩ := hel i kv e hkv he
        exact ⟨a1, a2, by omega⟩) (fun i j e f hi hj hb => by
      rw [Array.getElem?_push] at hi hj
      split at hi <;> split at hj
      · omega
      · rename_i g1 g2
        have hjl := (Array.getElem?_eq_some_iff.1 hj).1
        have := (hel j _ f (List.getElem?_eq_getElem (by omega)) hj).2.2
        simp at hi; subst hi; simp at hb; omega
      · rename_i g1 g2
        have hil := (Array.getElem?_eq_some_iff.1 hi).1
        have := (hel i _ e (List.getElem?_eq_getElem (by omega)) hi).2.2
        simp at hj; subst hj; simp at hb; omega
      · exact h5 i j e f hi hj hb)
    have hrun : (execOp ac.eval o).run P w = .ok .skip { w with heap := w.heap.setIfInBounds b (.map (ents.push { key := keyV kf a, val := ac.eval y, born := clock }) (clock + 1)) } := by
      simp [execOp, ho, hv, hri, Instr.mapUpdate, run_underlying' hm, hobj, k.check, h6, hset]
    rw [hrun, Oper.upon_skip, hd]
    exact ⟨hdef, F, env, _, hk, s.go hE hR, ex.trans hE⟩
  · simp only [Array.getElem?_toList] at h8
    have hjl := (Array.getElem?_eq_some_iff.1 h8).1
    have hkey := (hel j _ e h9 h8).1
    obtain ⟨hR, hE⟩ := mapK_set (m' := kPut m a v) (ents' := ents.modify j fun e => { e with key := keyV kf a, val := ac.eval y }) (clock' := clock) s.r hs (by rw [kPut_old h9 h11]; simp [hl]) (fun i kv e' hkv he => by
      rw [kPut_old h9 h11] at hkv
      rw [Array.getElem?_modify] at he
      by_cases hij : j = i
      · subst hij
        rw [if_pos rfl, h8] at he
        rw [List.getElem?_set_self (by omega)] at hkv
        simp at hkv he
        subst hkv; subst he
        exact ⟨rfl, hyv, (hel j _ e h9 h8).2.2⟩
      · rw [if_neg hij] at he
        rw [List.getElem?_set_ne hij] at hkv
        exact hel i kv e' hkv he) (fun i k e' f hi hj hb => by
      rw [Array.getElem?_modify] at hi hj
      have hb2 : ∀ q x, (if j = q then Option.map (fun e => { e with key := keyV kf a, val := ac.eval y : MapEntry }) ents[q]? else ents[q]?) = some x → ∃ y, ents[q]? = some y ∧ y.born = x.born := fun q x hq => by
        split at hq
        · obtain ⟨y, hy, rfl⟩ := Option.map_eq_some_iff.1 hq; exact ⟨y, hy, rfl⟩
        · exact ⟨x, hq, rfl⟩
      obtain ⟨y1, q1, q2⟩ := hb2 i e' hi
      obtain ⟨y2, q3, q4⟩ := hb2 k f hj
      exact h5 i k y1 y2 q1 q3 (by rw [q2, q4, hb]))
    have hrun : (execOp ac.eval o).run P w = .ok .skip { w with heap := w.heap.setIfInBounds b (.map (ents.modify j fun e => { e with key := keyV kf a, val := ac.eval y }) clock) } := by
      simp [execOp, ho, hv, hri, Instr.mapUpdate, run_underlying' hm, hobj, k.check, h6, hset, h8, hkey, k.stays]
    rw [hrun, Oper.upon_skip, hd]
    exact ⟨hdef, F, env, _, hk, s.go hE hR, ex.trans hE⟩
theorem oKI (k : KeyT P kt kf n l) (ho : o.op = .insert t x i y) (hd : o.dst = none) (hx : ev env x = some (.v (.map (some b)))) (hi : ev env i = some (keyA kf a)) (hm : P.underlying t = some (.map kt et)) (hk : K env (.mapK b (kvKM kf c (kPut m a v)) :: h')) (hs : Spl h (.mapK b (kvKM kf c m)) h' := by repeat constructor) (hy : ev env y = some (c v) := by rfl) : AOp P N o env h K := by
  have key := oKP (N := N) (o := { o with op := .mapUpdate t x i y }) k rfl hd hx hi hm hk hs hy
  intro B F a w Q s e hdef
  have := key B F a w Q s e hdef
  unfold Oper.wp at this ⊢
  have he : execOp a.eval o = execOp a.eval { o with op := .mapUpdate t x i y } := by simp [execOp, ho]
  rw [he]
  exact this

/-! ### Ranges -/
theorem oRangeK {d : Nat} {kvs : List (Value × AV)} (ho : o.op = .range t x) (hx : ev env x = some (.v (.map (some b)))) (hm : P.underlying t = some (.map kt et))
    (hk : ∀ r, K ((d, .v (.pointer (some ⟨r, 0, none⟩))) :: env) (.mapKIt b r kvs [] :: h')) (hs : Spl h (.mapK b kvs) h' := by repeat constructor) (hd : o.dst = some d := by rfl) (hN : d < N := by decide) : AOp P N o env h K := by
  intro B F a w Q s e hdef
  have hr := s.ev hx
  generalize hv : a.eval x = v at hr
  cases hr
  obtain ⟨ents, clock, h1, h2, h3, h4⟩ := s.r.rep _ (spl_mem hs)
  have hrun : (execOp a.eval o).run P w = .ok (.value (.pointer (some ⟨w.heap.size, 0, none⟩))) (w.alloc (.mapIter (some b) clock #[] clock)) := by
    simp [execOp, ho, hv, run_range_map w t kt et b ents clock hm h1]
  obtain ⟨hR, hE, hag⟩ := s.r.new (o := .mapIter (some b) clock #[] clock) (x := .obj w.heap.size (.mapIter (some b) clock #[] clock)) rfl (heap_new w _)
  have hlt := s.r.lt b (own_mapK hs)
  have p1 : (owns (HA.obj w.heap.size (.mapIter (some b) clock #[] clock) :: h)).Perm (owns (HA.mapKIt b w.heap.size kvs [] :: h')) := by
    have hp : (owns h).Perm (b :: owns h') := owns_perm hs.perm
    show (w.heap.size :: owns h).Perm (b :: w.heap.size :: owns h')
    exact (hp.cons _).trans (List.Perm.swap _ _ _)
  have hset : ∀ k, F k → (w.alloc (.mapIter (some b) clock #[] clock)).heap[k]? = w.heap[k]? := fun k hk => heap_old w _ k (s.r.sep k hk).1
  have hR2 : R F (.mapKIt b w.heap.size kvs [] :: h') (w.alloc (.mapIter (some b) clock #[] clock)) := by
    refine hR.same (p1.nodup_iff.1 hR.nd) (fun k hk => p1.mem_iff.2 hk) (fun y hy => ?_)
    rcases List.mem_cons.1 hy with rfl | hy
    · exact ⟨ents, clock, #[], by rw [heap_old w _ b hlt]; exact h1, h2, fun i kv e a b => ⟨(h3 i kv e a b).1, (h3 i kv e a b).2.1.mono (fun _ h => h) hset, (h3 i kv e a b).2.2⟩, h4, heap_new w _, rfl, fun j i hj => by simp at hj⟩
    · exact hR.rep y (by simp [hs.perm.mem_iff, hy])
  have hE2 : Ext F h w F (.mapKIt b w.heap.size kvs [] :: h') (w.alloc (.mapIter (some b) clock #[] clock)) := hE.trans (.same fun k hk => p1.mem_iff.2 hk)
  unfold Oper.wp
  rw [hrun, Oper.upon_value, hd]
  exact ⟨hdef, F, _, _, hk _, s.put hE2 hR2 hN (.v _), e.trans hE2⟩

/-- What a step of the range tells: it is over, all were handed out; or it hands out one that was not. -/
def NextK (ka : κ → AV) (c : β → AV) (m : List (κ × β)) (idx : List Nat) (t : Bool) (ks : List AV) (idx' : List Nat) : Prop :=
  (t = false ∧ ks = [] ∧ idx' = idx ∧ ∀ i, i < m.length → i ∈ idx) ∨ (t = true ∧ ∃ i p, m[i]? = some p ∧ i ∉ idx ∧ ks = [ka p.1, c p.2] ∧ idx' = idx ++ [i])
theorem NextK.no {ka : κ → AV} {idx idx' : List Nat} {t : Bool} {ks : List AV} (n : NextK ka c m idx t ks idx') (ht : t = false) : ks = [] ∧ idx' = idx ∧ ∀ i, i < m.length → i ∈ idx := by
  rcases n with ⟨_, h⟩ | ⟨h, _⟩
  · exact h
  · rw [ht] at h; cases h
theorem NextK.yes {ka : κ → AV} {idx idx' : List Nat} {t : Bool} {ks : List AV} (n : NextK ka c m idx t ks idx') (ht : t = true) : ∃ i p, m[i]? = some p ∧ i ∉ idx ∧ ks = [ka p.1, c p.2] ∧ idx' = idx ++ [i] := by
  rcases n with ⟨h, _⟩ | ⟨_, h⟩
  · rw [ht] at h; cases h
  · exact h

theorem own_mapKIt {b r : Nat} {kvs : List (Value × AV)} {idx : List Nat} {h' : List HA} (hs : Spl h (.mapKIt b r kvs idx) h') : b ∈ owns h ∧ r ∈ owns h := ⟨owns_spl hs (by simp [HA.own]), owns_spl hs (by simp [HA.own])⟩
theorem mapKIt_ne {F : Nat → Prop} {w : World} {b r : Nat} {kvs : List (Value × AV)} {idx : List Nat} {h' : List HA} (hr : R F h w) (hs : Spl h (.mapKIt b r kvs idx) h') : b ≠ r := by
  have := (owns_perm hs.perm).nodup_iff.1 hr.nd
  intro e
  simp [HA.own, e] at this

theorem oNextK {d b r : Nat} {idx : List Nat} (h1c : ∀ a, (kf a).all (·.oneCell') = true) (ho : o.op = .next x false) (hx : ev env x = some (.v (.pointer (some ⟨r, 0, none⟩))))
    (hk : ∀ t ks idx', NextK (keyA kf) c m idx t ks idx' → K ((d, .tup (.bool t :: ks)) :: env) (.mapKIt b r (kvKM kf c m) idx' :: h')) (hs : Spl h (.mapKIt b r (kvKM kf c m) idx) h' := by repeat constructor) (hd : o.dst = some d := by rfl) (hN : d < N := by decide) : AOp P N o env h K := by
  intro B F a w Q s e hdef
  have hr := s.ev hx
  generalize hv : a.eval x = v at hr
  cases hr
  obtain ⟨ents, clock, seen, h1, h2, h3, h4, h5, h6, h7⟩ := s.r.rep _ (spl_mem hs)
  have hlen : (kvKM kf c m).length = m.length := by simp [kvKM]
  rw [hlen] at h2
  have hat : ∀ (i : Nat) p, m[i]? = some p → (kvKM kf c m)[i]? = some (keyV kf p.1, c p.2) := fun i p hp => by simp [kvKM, hp]
  have hlt : ∀ {i x}, ents[i]? = some x → i < m.length := fun hi => by rw [← h2]; exact (Array.getElem?_eq_some_iff.1 hi).1
  have hold : ∀ x ∈ ents.toList, x.born < clock := fun x hx => by
    obtain ⟨i, hi⟩ := List.mem_iff_getElem?.1 hx
    have hi : ents[i]? = some x := by simpa using hi
    exact (h3 i _ x (hat i _ (List.getElem?_eq_getElem (hlt hi))) hi).2.2
  unfold Oper.wp
  rcases run_next_at (P := P) w o.type r b clock clock seen ents clock h5 h1 hold (Nat.le_refl _) with ⟨h0, hrun⟩ | ⟨en, hen, w1, hw1, hrun⟩
  · have hrun2 : (execOp a.eval o).run P w = .ok (.value (.tuple #[.bool false])) w := by simp [execOp, ho, hv, hrun]
    rw [hrun2, Oper.upon_value, hd]
    have hall : ∀ i, i < m.length → i ∈ idx := fun i hi => by
      have hi2 : i < ents.size := by omega
      have hno : seen.contains ents[i].born = true := by
        cases hc : seen.contains ents[i].born with
        | true => rfl
        | false =>
          have : ents[i] ∈ leftOf ents seen := by unfold leftOf; simp only [Array.mem_filter]; exact ⟨Array.getElem_mem hi2, by rw [hc]; rfl⟩
          have := Array.size_pos_of_mem this
          omega
      rw [Array.contains_iff_mem] at hno
      obtain ⟨j, hj, hje⟩ := Array.getElem_of_mem hno
      have hjl : j < idx.length := by omega
      obtain ⟨e', he1, he2⟩ := h7 j _ (List.getElem?_eq_getElem hjl)
      rw [Array.getElem?_eq_getElem hj, hje] at he2
      have := h4 i _ _ e' (Array.getElem?_eq_getElem hi2) he1 (Option.some.inj he2)
      rw [this]
      exact List.getElem_mem hjl
    exact ⟨hdef, F, _, _, hk false [] idx (.inl ⟨rfl, rfl, rfl, hall⟩), s.put (Ext.permR hs.perm (.refl F h w)) (s.r.perm hs.perm) hN (.tup _ _ rfl (fun j av x hj hx => by
      match j with
      | 0 => simp at hj hx; subst hj; subst hx; exact .v _
      | j + 1 => simp at hj)), e.permR hs.perm⟩
  · have hin : en ∈ ents ∧ seen.contains en.born = false := by
      have : en ∈ leftOf ents seen := by simpa using hen
      unfold leftOf at this
      simpa only [Array.mem_filter, Bool.not_eq_true'] using this
    obtain ⟨i, hi, hie⟩ := Array.getElem_of_mem hin.1
    have hi1 : ents[i]? = some en := by rw [Array.getElem?_eq_getElem hi, hie]
    have hil := hlt hi1
    have hni : i ∉ idx := fun hm => by
      obtain ⟨j, hj⟩ := List.mem_iff_getElem?.1 hm
      obtain ⟨e', he1, he2⟩ := h7 j i hj
      rw [hi1] at he1
      cases he1
      have : seen.contains en.born = true := by rw [Array.contains_iff_mem]; exact Array.mem_of_getElem? he2
      rw [hin.2] at this
      cases this
    obtain ⟨g1, g2, g3⟩ := h3 i _ en (hat i _ (List.getElem?_eq_getElem hil)) hi1
    have hrun2 : (execOp a.eval o).run P w = .ok (.value (.tuple #[.bool true, en.key, en.val])) (Go.ChangeMaps.setBlock w1 r (.mapIter (some b) clock (seen.push en.born) clock)) := by simp [execOp, ho, hv, hrun]
    have hwh : w1.heap = w.heap ∧ w1.os = w.os ∧ w1.output = w.output ∧ w1.tape = w.tape ∧ w.drawn ≤ w1.drawn := by rcases hw1 with rfl | rfl <;> exact ⟨rfl, rfl, rfl, rfl, by first | exact Nat.le_refl _ | exact Nat.le_succ _⟩
    have hbr := mapKIt_ne s.r hs
    have hrlt := s.r.lt r (own_mapKIt hs).2
    have hoth : ∀ k, k ≠ r → (Go.ChangeMaps.setBlock w1 r (.mapIter (some b) clock (seen.push en.born) clock)).heap[k]? = w.heap[k]? := fun k hk => by
      show (w1.heap.setIfInBounds r _)[k]? = _
      rw [hwh.1, Array.getElem?_setIfInBounds, if_neg (Ne.symm hk)]
    have hown : (Go.ChangeMaps.setBlock w1 r (.mapIter (some b) clock (seen.push en.born) clock)).heap[r]? = some (.mapIter (some b) clock (seen.push en.born) clock) := by
      show (w1.heap.setIfInBounds r _)[r]? = _
      rw [hwh.1]
      simp [hrlt]
    have hset : ∀ k, F k → (Go.ChangeMaps.setBlock w1 r (.mapIter (some b) clock (seen.push en.born) clock)).heap[k]? = w.heap[k]? := fun k hk => hoth k (fun e => (s.r.sep k hk).2 (e ▸ (own_mapKIt hs).2))
    obtain ⟨hR, hE⟩ := s.r.upd (hdr := hwh.2.2.2.2) (w' := Go.ChangeMaps.setBlock w1 r (.mapIter (some b) clock (seen.push en.born) clock)) (x' := .mapKIt b r (kvKM kf c m) (idx ++ [i])) hs rfl hwh.2.1 hwh.2.2.1 hwh.2.2.2.1 (by show (w1.heap.setIfInBounds r _).size = _; rw [hwh.1]; simp)
      (fun k hk => hoth k (fun e => hk (by simp [HA.own, e])))
      ⟨ents, clock, seen.push en.born, by rw [hoth b hbr]; exact h1, by rw [h2, hlen], fun i kv e a b => ⟨(h3 i kv e a b).1, (h3 i kv e a b).2.1.mono (fun _ h => h) hset, (h3 i kv e a b).2.2⟩, h4, hown, by simp [h6], fun j k hj => by
        by_cases hjl : j < idx.length
        · rw [List.getElem?_append_left hjl] at hj
          obtain ⟨e', he1, he2⟩ := h7 j k hj
          exact ⟨e', he1, by rw [Array.getElem?_push, if_neg (by omega)]; exact he2⟩
        · rw [List.getElem?_append_right (by omega)] at hj
          have hj0 : j = idx.length := by
            have := (List.getElem?_eq_some_iff.1 hj).1
            simp at this
            omega
          subst hj0
          simp at hj
          subst hj
          exact ⟨en, hi1, by rw [Array.getElem?_push, if_pos h6.symm]⟩⟩
    rw [hrun2, Oper.upon_value, hd]
    refine ⟨hdef, F, _, _, hk true _ _ (.inr ⟨rfl, i, m[i], List.getElem?_eq_getElem hil, hni, rfl, rfl⟩), s.put hE hR hN (.tup _ _ rfl (fun j av x hj hx => ?_)), e.trans hE⟩
    match j with
    | 0 => simp at hj hx; subst hj; subst hx; exact .v _
    | 1 => simp at hj hx; subst hj; subst hx; rw [g1]; exact rep_keyV (h1c _) _ _
    | 2 => simp at hj hx; subst hj; subst hx; exact g2.mono (fun _ h => h) hset
    | j + 3 => simp at hj

theorem rEntryK {b r j : Nat} {p : κ × β} {idx : List Nat} (h1c : ∀ a, (kf a).all (·.oneCell') = true) (ho : o.op = .entry x) (hx : ev env x = some (.v (.pointer (some ⟨r, 0, none⟩)))) (hk : m[j]? = some p) (hs : Spl h (.mapKIt b r (kvKM kf c m) (idx ++ [j])) h' := by repeat constructor) :
    ARead P N o env h (.tup [keyA kf p.1, c p.2]) := by
  intro F a w s
  have hr := s.ev hx
  generalize hv : a.eval x = v at hr
  cases hr
  obtain ⟨ents, clock, seen, h1, h2, h3, h4, h5, h6, h7⟩ := s.r.rep _ (spl_mem hs)
  obtain ⟨en, he1, he2⟩ := h7 idx.length j (by simp)
  obtain ⟨bs, cl, rfl⟩ := Array.eq_push_of_size_ne_zero (xs := seen) (by rw [h6]; simp)
  have hbs : bs.size = idx.length := by simpa using h6
  rw [Array.getElem?_push, if_pos hbs.symm] at he2
  obtain rfl := Option.some.inj he2
  obtain ⟨g1, g2, _⟩ := h3 j (keyV kf p.1, c p.2) en (by simp [kvKM, hk]) he1
  have hnd : (ents.toList.map (·.born)).Nodup := by
    rw [List.nodup_iff_pairwise_ne, List.pairwise_iff_getElem]
    intro p q hp hq hlt he
    simp only [List.getElem_map, List.length_map] at he hp hq
    have := h4 p q _ _ (Array.getElem?_eq_getElem (by simpa using hp)) (Array.getElem?_eq_getElem (by simpa using hq)) (by simpa using he)
    omega
  refine ⟨.tuple #[en.key, en.val], .tup _ _ rfl (fun j av x hj hx => ?_), fun w' hw => ?_⟩
  · match j with
    | 0 => simp at hj hx; subst hj; subst hx; rw [g1]; exact rep_keyV (h1c _) _ _
    | 1 => simp at hj hx; subst hj; subst hx; exact g2
    | j + 2 => simp at hj
  · have k1 := (hw r (.inr (own_mapKIt hs).2)).trans h5
    have k2 := (hw b (.inr (own_mapKIt hs).1)).trans h1
    have hrun := run_entry_at (P := P) w' r b clock bs ents clock en k1 k2 (by simpa using Array.mem_of_getElem? he1) hnd
    simp [execOp, ho, hv, hrun]
theorem cast_key {κ : Type} {kf : κ → List Value} {a : κ} (h1 : (kf a).all (·.oneCell') = true) : Cast (.v (keyV kf a)) (keyA kf a) := fun F w x hx => by cases hx; exact rep_keyV h1 F w

/-- The range is over: the map is a map again. -/
theorem weak_unmapK {b r : Nat} {kvs : List (Value × AV)} {idx : List Nat} {h' : List HA} (hs : Spl h (.mapKIt b r kvs idx) h') : Weak N env h env (.mapK b kvs :: h') := by
  intro F a w s
  have hp : (owns h).Perm (b :: r :: owns h') := owns_perm hs.perm
  have sub : ∀ k ∈ owns (HA.mapK b kvs :: h'), k ∈ owns h := fun k hk => by
    have hk : k ∈ b :: owns h' := hk
    refine hp.mem_iff.2 ?_
    simp only [List.mem_cons] at hk ⊢
    exact hk.imp id .inr
  have nd : (owns (HA.mapK b kvs :: h')).Nodup := by
    have := hp.nodup_iff.1 s.r.nd
    show (b :: owns h').Nodup
    simp only [List.nodup_cons, List.mem_cons, not_or] at this ⊢
    exact ⟨this.1.2, this.2.2⟩
  refine ⟨F, ⟨s.r.same nd sub (fun y hy => ?_), s.size, s.env⟩, .same sub⟩
  rcases List.mem_cons.1 hy with rfl | hy
  · obtain ⟨ents, clock, seen, h1, h2, h3, h4, _⟩ := s.r.rep _ (spl_mem hs)
    exact ⟨ents, clock, h1, h2, h3, h4⟩
  · exact s.r.rep y (hs.perm.mem_iff.2 (by simp [hy]))
end

end A
end Go.Proofs.Ytmcannmjielalaa
