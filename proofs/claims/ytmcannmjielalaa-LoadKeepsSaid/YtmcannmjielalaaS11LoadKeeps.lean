/- Texts that LoadKeeps's proof rests on, part 12. -/
import Derived.WideKeyRuns
import Derived.Test.YtmcannmjielalaaS10LoadKeeps
set_option linter.unusedVariables false
set_option linter.unusedSimpArgs false
set_option linter.unusedSectionVars false
namespace Go.Proofs.Ytmcannmjielalaa
namespace A
variable {P : Program} {N : Nat} {env : Env} {h : List HA} {K : Cont} {X : List (Nat × Cont)} {Rt : Cont}
section
variable {κ β : Type} [DecidableEq κ]
def kGet : List (κ × β) → κ → Option β
  | [], _ => none
  | (k, v) :: t, n => if n = k then some v else kGet t n
def kPut : List (κ × β) → κ → β → List (κ × β)
  | [], n, v => [(n, v)]
  | (k, u) :: t, n, v => if n = k then (n, v) :: t else (k, u) :: kPut t n v
theorem kPut_new : ∀ {m : List (κ × β)} {n : κ} {v : β}, kGet m n = none → kPut m n v = m ++ [(n, v)]
  | [], n, v, _ => rfl
  | (k, u) :: t, n, v, h => by
    by_cases hn : n = k
    · simp [kGet, hn] at h
    · simp only [kGet, hn, if_false] at h
      simp only [kPut, hn, if_false, List.cons_append]
      rw [kPut_new h]
theorem kPut_old : ∀ {m : List (κ × β)} {n : κ} {v u : β} {i : Nat}, m[i]? = some (n, u) → (∀ j p, j < i → m[j]? = some p → n ≠ p.1) → kPut m n v = m.set i (n, v)
  | [], n, v, u, i, h, _ => by simp at h
  | (k, u') :: t, n, v, u, 0, h, _ => by simp at h; obtain ⟨rfl, rfl⟩ := h; simp [kPut]
  | (k, u') :: t, n, v, u, i + 1, h, hj => by
    have hn : ¬ n = k := hj 0 (k, u') (by omega) rfl
    simp only [kPut, hn, if_false, List.set_cons_succ]
    rw [kPut_old (by simpa using h) (fun j p hlt hk => hj (j + 1) p (by omega) (by simpa using hk))]
theorem kGet_put {n k : κ} {v : β} : ∀ {m : List (κ × β)}, kGet (kPut m k v) n = if n = k then some v else kGet m n
  | [] => by simp [kPut, kGet]
  | (j, u) :: t => by
    simp only [kPut]
    by_cases h : k = j
    · subst h
      rw [if_pos rfl]
      simp only [kGet]
      split <;> rfl
    · rw [if_neg h]
      simp only [kGet, kGet_put (m := t)]
      by_cases h2 : n = j
      · subst h2; rw [if_pos rfl, if_neg (fun e => h e.symm), if_pos rfl]
      · rw [if_neg h2, if_neg h2]
theorem kGet_mem {n : κ} : ∀ {m : List (κ × β)}, (kGet m n).isSome = true ↔ n ∈ m.map Prod.fst
  | [] => by simp [kGet]
  | (k, v) :: t => by
    have ih := kGet_mem (n := n) (m := t)
    simp only [kGet, List.map_cons, List.mem_cons]
    by_cases h : n = k
    · subst h; simp
    · rw [if_neg h, ih]; simp [h]
theorem kPut_keys {n k : κ} {v : β} {m : List (κ × β)} : n ∈ (kPut m k v).map Prod.fst ↔ n = k ∨ n ∈ m.map Prod.fst := by
  rw [← kGet_mem, kGet_put, ← kGet_mem]
  split <;> simp_all
theorem kPut_nodup {k : κ} {v : β} : ∀ {m : List (κ × β)}, (m.map Prod.fst).Nodup → ((kPut m k v).map Prod.fst).Nodup
  | [], _ => by simp [kPut]
  | (j, u) :: t, h => by
    have h' := List.nodup_cons.1 (show (j :: t.map Prod.fst).Nodup from h)
    simp only [kPut]
    by_cases hk : k = j
    · subst hk; rw [if_pos rfl]; exact h
    · rw [if_neg hk]
      refine List.nodup_cons.2 ⟨fun hm => ?_, kPut_nodup h'.2⟩
      rcases kPut_keys.1 hm with e | e
      · exact hk e.symm
      · exact h'.1 e
theorem kPut_len {k : κ} {v : β} : ∀ {m : List (κ × β)}, (kPut m k v).length ≤ m.length + 1
  | [] => by simp [kPut]
  | (j, u) :: t => by
    have := kPut_len (k := k) (v := v) (m := t)
    simp only [kPut]
    split <;> simp <;> omega
end
/-- A type of keys: its plan, and the cells of a key. -/
structure KeyT (P : Program) (kt : TypeId) {κ : Type} [DecidableEq κ] (kf : κ → List Value) (n : Nat) (l : List (Nat × EQ)) : Prop where
  pln : eqPlan P kt = some (n, l)
  wide : (match P.underlying kt with | some (.array _ _) | some (.struct _) => true | _ => false) = true
  len : ∀ a, (kf a).length = n
  eq : ∀ a b, eqLeaves l ((kf a).map .v) ((kf b).map .v) = some (decide (a = b))
  one : ∀ a, (kf a).all (·.oneCell') = true
  bits : ∀ a, (kf a).all (fun x => Instr.sameBits 9999 x x) = true
def keyV {κ : Type} (kf : κ → List Value) (a : κ) : Value := .agg (kf a).toArray
def keyA {κ : Type} (kf : κ → List Value) (a : κ) : AV := .agg ((kf a).map .v)
theorem rep_keyA {κ : Type} {kf : κ → List Value} {a : κ} {F : Nat → Prop} {w : World} {x : Value} (r : Rep F w (keyA kf a) x) : x = keyV kf a := by
  cases r with
  | agg _ xs hl h1 hR =>
    have : xs = (kf a).toArray := by
      apply Array.ext (by simpa using hl)
      intro i hi hi'
      have hi2 : i < (kf a).length := by simpa using hi'
      have := hR i (.v (kf a)[i]) xs[i] (by simp [hi2]) (Array.getElem?_eq_getElem hi)
      generalize hz : xs[i] = z at this
      cases this
      simp
    rw [this]; rfl
theorem rep_keyV {κ : Type} {kf : κ → List Value} {a : κ} (h1 : (kf a).all (·.oneCell') = true) (F : Nat → Prop) (w : World) : Rep F w (keyA kf a) (keyV kf a) :=
  .agg _ _ (by simp) (fun x hx => List.all_eq_true.1 h1 x (by simpa using hx)) (fun j av x hj hx => by
    rw [List.getElem?_map] at hj
    simp only [List.getElem?_toArray] at hx
    rw [hx] at hj
    simp at hj
    subst hj
    exact .v _)
section
variable {xs : Array Value}
theorem run_checkPlan (em : Bool) : ∀ (f : Nat) (t : TypeId) (o : Nat) (l : List (Nat × EQ)) (d : Nat) (x : Value) (w : World), f ≤ d → plan P f t o = some l → IsPart P xs t o x → (Instr.checkKey em d t x).run P w = .ok () w := by
  intro f
  induction f with
  | zero => intro t o l d x w _ hp; cases hp
  | succ f ih =>
    intro t o l d x w hd hp hx
    obtain ⟨d, rfl⟩ : ∃ e, d = e + 1 := ⟨d - 1, by omega⟩
    obtain ⟨n, g, ht, hxn, hx⟩ := hx
    rw [plan, ht] at hp
    split at hp
    · rename_i k n0 hu hn
      simp [Instr.checkKey, run_underlying' hu]
    · rename_i n0 hu hn
      simp [Instr.checkKey, run_underlying' hu]
    · rename_i n0 hu hn
      simp [Instr.checkKey, run_underlying' hu]
    · rename_i e n0 hu hn
      simp [Instr.checkKey, run_underlying' hu]
    · rename_i fs n0 hu hn
      cases hn
      split at hp
      case isTrue => cases hp
      rename_i hst
      have hx : x = .agg (xs.extract o (o + n)) := by simpa using hx
      subst hx
      rw [Instr.checkKey]
      simp only [Sem.run_bind, run_underlying' hu, Result.andThen_ok]
      rw [← Array.forIn_toList]
      generalize fs.toList = fl at hp
      clear hu
      induction fl generalizing l with
      | nil => simp
      | cons fd r ihf =>
        rw [planFs] at hp
        split at hp
        case h_2 => cases hp
        rename_i m g0 l1 l2 hn hty hg hr
        split at hp
        case isFalse => cases hp
        rename_i hfit
        obtain ⟨xi, hxi, px⟩ := run_part (xs := xs) (o := o) hty (plan_pos hty hg) hfit hxn w
        have hrun := ih fd.type (o + fd.offset) l1 d xi w (by omega) hg px
        have hne : fd.name ≠ "_" := by simpa using hn
        simp only [List.forIn_cons, if_pos hne, Sem.run_bind, hxi, hrun, Result.andThen_ok, Sem.run_pure]
        exact ihf l2 hr
    · rename_i k e n0 hu hn
      cases hn
      split at hp
      case h_2 => cases hp
      rename_i m g0 hty
      split at hp
      case isFalse => cases hp
      rename_i hfit
      have hx : x = .agg (xs.extract o (o + n)) := by simpa using hx
      subst hx
      obtain ⟨i, hi, him⟩ : ∃ i, P.info? e = some i ∧ i.size = m := by
        unfold tyOf at hty
        cases hi : P.info? e with
        | none => rw [hi] at hty; split at hty <;> simp_all
        | some i => exact ⟨i, rfl, by rw [hi] at hty; split at hty <;> simp_all⟩
      rw [Instr.checkKey]
      simp only [Sem.run_bind, run_underlying' hu, Result.andThen_ok]
      simp only [Std.Legacy.Range.forIn_eq_forIn_range', Std.Legacy.Range.size, Nat.sub_zero, Nat.add_one_sub_one, Nat.div_one]
      rw [List.range_eq_range'] at hp
      have hlt : ∀ i ∈ List.range' 0 k, i < k := fun i hi => by simp [List.mem_range'] at hi; omega
      generalize List.range' 0 k = is at hp hlt
      induction is generalizing l with
      | nil => simp
      | cons j r ihf =>
        rw [planIs] at hp
        split at hp
        case h_2 => cases hp
        rename_i l1 l2 hg hr
        have hjk : j * m + m ≤ n := by
          have : (j + 1) * m ≤ k * m := Nat.mul_le_mul_right m (hlt j (by simp))
          rw [Nat.succ_mul] at this
          omega
        obtain ⟨xi, hxi, px⟩ := run_part (xs := xs) (o := o) hty (plan_pos hty hg) hjk hxn w
        have hrun := ih e (o + j * m) l1 d xi w (by omega) hg px
        have hsz : (sizeOf e).run P w = .ok m w := run_sizeOf hty w
        simp only [List.forIn_cons, Sem.run_bind, hsz, hxi, hrun, Result.andThen_ok, Sem.run_pure]
        exact ihf l2 hr (fun i hi => hlt i (by simp [hi]))
    · cases hp
end
section
variable {κ : Type} [DecidableEq κ] {kf : κ → List Value} {kt : TypeId} {n : Nat} {l : List (Nat × EQ)}
theorem KeyT.part (k : KeyT P kt kf n l) (a : κ) : IsPart P (kf a).toArray kt 0 (keyV kf a) ∧ plan P 10 kt 0 = some l := by
  have hp := k.pln
  unfold eqPlan at hp
  split at hp
  case isTrue => cases hp
  split at hp
  case h_2 => cases hp
  rename_i n0 l0 hty hp'
  cases hp
  refine ⟨⟨n, true, hty, by simp [k.len a], .inl ⟨rfl, ?_⟩⟩, hp'⟩
  unfold keyV
  congr 1
  rw [Nat.zero_add]
  apply Array.ext'
  simp [← k.len a]
theorem KeyT.check (k : KeyT P kt kf n l) (a : κ) (em : Bool) (w : World) : (Instr.checkKey em 10000 kt (keyV kf a)).run P w = .ok () w :=
  run_checkPlan em 10 kt 0 l 10000 _ w (by decide) (k.part a).2 (k.part a).1
theorem KeyT.equal (k : KeyT P kt kf n l) (a b : κ) (w : World) : (Op.equal kt (keyV kf a) (keyV kf b)).run P w = .ok (decide (a = b)) w :=
  run_plan (F := fun _ => False) (w0 := w) (cs := (kf a).map .v) (ds := (kf b).map .v) (xs := (kf a).toArray) (ys := (kf b).toArray)
    (fun j av x hj hx => by rw [List.getElem?_map] at hj; simp only [List.getElem?_toArray] at hx; rw [hx] at hj; simp at hj; subst hj; exact .v _)
    (fun j av x hj hx => by rw [List.getElem?_map] at hj; simp only [List.getElem?_toArray] at hx; rw [hx] at hj; simp at hj; subst hj; exact .v _)
    10 kt 0 l _ Op.maxDepth _ _ w (by decide) (k.part a).2 (k.eq a b) (k.part a).1 (k.part b).1
theorem KeyT.stays (k : KeyT P kt kf n l) (a : κ) (w : World) : (Instr.keyThatStays (keyV kf a) (keyV kf a)).run P w = .ok (keyV kf a) w := by
  have hb := k.bits a
  have : Instr.sameBits 10000 (keyV kf a) (keyV kf a) = true := by
    rw [show (10000 : Nat) = 9999 + 1 from rfl]
    simp only [keyV, Instr.sameBits, beq_self_eq_true, Bool.true_and]
    rw [List.all_eq_true]
    intro p hp
    obtain ⟨i, hi, rfl⟩ := List.getElem_of_mem hp
    simp only [List.getElem_zip]
    exact List.all_eq_true.1 hb _ (by simp)
  unfold Instr.keyThatStays
  simp [this]
variable {β : Type} {c : β → AV}
def kvKM (kf : κ → List Value) (c : β → AV) (m : List (κ × β)) : List (Value × AV) := m.map fun p => (keyV kf p.1, c p.2)
def EntsK (kf : κ → List Value) (c : β → AV) (F : Nat → Prop) (w : World) (clock : Nat) : List MapEntry → List (κ × β) → Prop
  | [], [] => True
  | e :: es, kv :: t => (e.key = keyV kf kv.1 ∧ Rep F w (c kv.2) e.val ∧ e.born < clock) ∧ EntsK kf c F w clock es t
  | _, _ => False
theorem entsK_of {F : Nat → Prop} {w : World} {clock : Nat} : ∀ (es : List MapEntry) (m : List (κ × β)), es.length = m.length →
    (∀ (i : Nat) kv e, m[i]? = some kv → es[i]? = some e → e.key = keyV kf kv.1 ∧ Rep F w (c kv.2) e.val ∧ e.born < clock) → EntsK kf c F w clock es m
  | [], [], _, _ => trivial
  | e :: es, kv :: t, hl, hh => ⟨hh 0 kv e rfl rfl, entsK_of es t (by simpa using hl) (fun i kv e a b => hh (i + 1) kv e (by simpa using a) (by simpa using b))⟩
  | [], _ :: _, hl, _ => by simp at hl
  | _ :: _, [], hl, _ => by simp at hl
theorem entsK_to {F : Nat → Prop} {w : World} {clock : Nat} : ∀ {es : List MapEntry} {m : List (κ × β)}, EntsK kf c F w clock es m →
    es.length = m.length ∧ ∀ (i : Nat) kv e, m[i]? = some kv → es[i]? = some e → e.key = keyV kf kv.1 ∧ Rep F w (c kv.2) e.val ∧ e.born < clock
  | [], [], _ => ⟨rfl, fun i kv e a => by simp at a⟩
  | e :: es, kv :: t, ⟨h1, h2⟩ => by
    obtain ⟨h3, h4⟩ := entsK_to h2
    refine ⟨by simp [h3], fun i kv' e' a b => ?_⟩
    cases i with
    | zero => simp at a b; subst a; subst b; exact h1
    | succ i => exact h4 i kv' e' (by simpa using a) (by simpa using b)
  | [], _ :: _, h => h.elim
  | _ :: _, [], h => h.elim
theorem find_asking (k : KeyT P kt kf n l) {F : Nat → Prop} {w0 : World} {clock : Nat} {a : κ} : ∀ {es : List MapEntry} {m : List (κ × β)} (s : Nat), EntsK kf c F w0 clock es m →
    ((∀ w, (Instr.findAsking kt (keyV kf a) es s).run P w = .ok none w) ∧ kGet m a = none) ∨
    ∃ i e v, (∀ w, (Instr.findAsking kt (keyV kf a) es s).run P w = .ok (some (s + i, e.val)) w) ∧ es[i]? = some e ∧ m[i]? = some (a, v) ∧ kGet m a = some v ∧ (∀ j p, j < i → m[j]? = some p → a ≠ p.1)
  | [], [], s, _ => .inl ⟨fun w => by simp [Instr.findAsking], rfl⟩
  | e :: es, kv :: t, s, ⟨⟨h1, h2, h3⟩, h4⟩ => by
    have heq := fun w => k.equal a kv.1 w
    by_cases hn : a = kv.1
    · subst hn
      refine .inr ⟨0, e, kv.2, fun w => by simp [Instr.findAsking, h1, heq], rfl, rfl, by simp [kGet], fun j kv hj => by omega⟩
    · rcases find_asking k (a := a) (s + 1) h4 with ⟨h5, h6⟩ | ⟨i, e', v, h5, h6, h7, h8, h9⟩
      · exact .inl ⟨fun w => by simp [Instr.findAsking, h1, heq, hn, h5], by simp [kGet, hn, h6]⟩
      · refine .inr ⟨i + 1, e', v, fun w => by simp [Instr.findAsking, h1, heq, hn, h5]; omega, by simpa using h6, by simpa using h7, by simp [kGet, hn, h8], fun j p hj hk => ?_⟩
        cases j with
        | zero => simp at hk; subst hk; exact hn
        | succ j => exact h9 j p (by omega) (by simpa using hk)
  | [], _ :: _, _, h => h.elim
  | _ :: _, [], _, h => h.elim
theorem find_entsK (k : KeyT P kt kf n l) {F : Nat → Prop} {w0 : World} {clock : Nat} {a : κ} {es : List MapEntry} {m : List (κ × β)} (he : EntsK kf c F w0 clock es m) :
    ((∀ w, (Instr.findKey kt (keyV kf a) es).run P w = .ok none w) ∧ kGet m a = none) ∨
    ∃ i e v, (∀ w, (Instr.findKey kt (keyV kf a) es).run P w = .ok (some (i, e.val)) w) ∧ es[i]? = some e ∧ m[i]? = some (a, v) ∧ kGet m a = some v ∧ (∀ j p, j < i → m[j]? = some p → a ≠ p.1) := by
  rcases find_asking k (a := a) 0 he with ⟨h1, h2⟩ | ⟨i, e, v, h1, h2⟩
  · exact .inl ⟨fun w => by rw [run_findKey_eq w k.wide]; exact h1 w, h2⟩
  · exact .inr ⟨i, e, v, fun w => by rw [run_findKey_eq w k.wide, h1 w, Nat.zero_add], h2⟩
theorem mapK_ents {F : Nat → Prop} {w : World} {b : Nat} {m : List (κ × β)} (hr : HARep F w (.mapK b (kvKM kf c m))) : ∃ ents clock, w.heap[b]? = some (.map ents clock) ∧ EntsK kf c F w clock ents.toList m ∧ (∀ (i j : Nat) e f, ents[i]? = some e → ents[j]? = some f → e.born = f.born → i = j) := by
  obtain ⟨ents, clock, h1, h2, h3, h4⟩ := hr
  refine ⟨ents, clock, h1, entsK_of _ _ (by simpa [kvKM] using h2) (fun i kv e a b => ?_), h4⟩
  exact h3 i (keyV kf kv.1, c kv.2) e (by simp [kvKM, a]) (by simpa using b)
theorem own_mapK {b : Nat} {kvs : List (Value × AV)} {h' : List HA} (hs : Spl h (.mapK b kvs) h') : b ∈ owns h := owns_spl hs (by simp [HA.own])
variable {o : Oper} {t et : TypeId} {x i y : Operand} {b : Nat} {m : List (κ × β)} {a : κ} {z : Value} {h' : List HA} {v : β}
/-- A map without keys. -/
theorem qMK {d : Nat} (kf : κ → List Value) (c : β → AV) (ho : o.op = .makeMap t none) (hk : ∀ b, K ((d, .v (.map (some b))) :: env) (.mapK b (kvKM kf c []) :: h)) (hd : o.dst = some d := by rfl) (hN : d < N := by decide) : AOpQ P N o env h K := by
  intro B F a w Q s e hdef
  obtain ⟨hr, he, hag⟩ := s.r.new (o := .map #[] 0) (x := .mapK w.heap.size (kvKM kf c [])) rfl ⟨#[], 0, heap_new w _, rfl, fun i kv e a => by simp [kvKM] at a, fun i j e f a => by simp at a⟩
  have hrun : (execOp a.eval o).run P w = .ok (.value (.map (some w.heap.size))) (w.alloc (.map #[] 0)) := by simp [execOp, ho, Instr.makeMap]
  unfold Oper.wp
  rw [hrun, Oper.upon_value, hd]
  exact ⟨hdef, F, _, _, hk _, s.put he hr hN (.v _), e.trans he, hag, fun _ h => h, fun b hb => .inl (by simp [hb])⟩
/-- 'm[k]' -/
theorem rKG (k : KeyT P kt kf n l) (hm : P.underlying t = some (.map kt et)) (hz : zeroOf P et = some z) (z0 : β) (hc : Cast (.v z) (c z0)) (ho : o.op = .lookup t x i false := by rfl) (hx : ev env x = some (.v (.map (some b))) := by rfl) (hi : ev env i = some (keyA kf a) := by rfl) (hs : Spl h (.mapK b (kvKM kf c m)) h' := by repeat constructor) : ARead P N o env h (c ((kGet m a).getD z0)) := by
  intro F ac w s
  have hr := s.ev hx
  have hri := rep_keyA (s.ev hi)
  generalize hv : ac.eval x = v at hr
  cases hr
  obtain ⟨ents, clock, h3, h4, _⟩ := mapK_ents (s.r.rep _ (spl_mem hs))
  have hobj : ∀ w', Agree F h w w' → (getObj b).run P w' = .ok (.map ents clock) w' := fun w' hw => by
    have := hw b (.inr (own_mapK hs))
    simp only [getObj, Sem.run, this, h3]
  rcases find_entsK k (a := a) h4 with ⟨h5, h6⟩ | ⟨j, e, v, h5, h6, h7, h8, _⟩
  · rw [h6]
    refine ⟨z, hc F w z (.v z), fun w' hw => ?_⟩
    simp [execOp, ho, hv, hri, Instr.lookup, run_underlying' hm, hobj w' hw, k.check, h5, run_zero hz]
  · rw [h8]
    have h9 := ((entsK_to h4).2 j _ e h7 h6).2.1
    refine ⟨e.val, h9, fun w' hw => ?_⟩
    simp [execOp, ho, hv, hri, Instr.lookup, run_underlying' hm, hobj w' hw, k.check, h5]
/-! ### Ranges -/
theorem oRangeK {d : Nat} {kvs : List (Value × AV)} (ho : o.op = .range t x) (hx : ev env x = some (.v (.map (some b)))) (hm : P.underlying t = some (.map kt et))
    (hk : ∀ r, K ((d, .v (.pointer (some ⟨r, 0, none⟩))) :: env) (.mapKIt b r kvs [] :: h')) (hs : Spl h (.mapK b kvs) h' := by repeat constructor) (hd : o.dst = some d := by rfl) (hN : d < N := by decide) : AOp P N o env h K := by
  intro B F a w Q s e hdef
  have hr := s.ev hx
  generalize hv : a.eval x = v at hr
  cases hr
  obtain ⟨ents, clock, h1, h2, h3, h4⟩ := s.r.rep _ (spl_mem hs)
  have hrun : (execOp a.eval o).run P w = .ok (.value (.pointer (some ⟨w.heap.size, 0, none⟩))) (w.alloc (.mapIter (some b) clock #[] clock)) := by
    simp [execOp, ho, hv, run_range_map w t kt et b ents clock hm h1]
  obtain ⟨hR, hE, hag⟩ := s.r.new (o := .mapIter (some b) clock #[] clock) (x := .obj w.heap.size (.mapIter (some b) clock #[] clock)) rfl (heap_new w _)
  have hlt := s.r.lt b (own_mapK hs)
  have p1 : (owns (HA.obj w.heap.size (.mapIter (some b) clock #[] clock) :: h)).Perm (owns (HA.mapKIt b w.heap.size kvs [] :: h')) := by
    have hp : (owns h).Perm (b :: owns h') := owns_perm hs.perm
    show (w.heap.size :: owns h).Perm (b :: w.heap.size :: owns h')
    exact (hp.cons _).trans (List.Perm.swap _ _ _)
  have hset : ∀ k, F k → (w.alloc (.mapIter (some b) clock #[] clock)).heap[k]? = w.heap[k]? := fun k hk => heap_old w _ k (s.r.sep k hk).1
  have hR2 : R F (.mapKIt b w.heap.size kvs [] :: h') (w.alloc (.mapIter (some b) clock #[] clock)) := by
    refine hR.same (p1.nodup_iff.1 hR.nd) (fun k hk => p1.mem_iff.2 hk) (fun y hy => ?_)
    rcases List.mem_cons.1 hy with rfl | hy
    · exact ⟨ents, clock, #[], by rw [heap_old w _ b hlt]; exact h1, h2, fun i kv e a b => ⟨(h3 i kv e a b).1, (h3 i kv e a b).2.1.mono (fun _ h => h) hset, (h3 i kv e a b).2.2⟩, h4, heap_new w _, rfl, fun j i hj => by simp at hj⟩
    · exact hR.rep y (by simp [hs.perm.mem_iff, hy])
  have hE2 : Ext F h w F (.mapKIt b w.heap.size kvs [] :: h') (w.alloc (.mapIter (some b) clock #[] clock)) := hE.trans (.same fun k hk => p1.mem_iff.2 hk)
  unfold Oper.wp
  rw [hrun, Oper.upon_value, hd]
  exact ⟨hdef, F, _, _, hk _, s.put hE2 hR2 hN (.v _), e.trans hE2⟩
/-- What a step of the range tells: it is over, all were handed out; or it hands out one that was not. -/
def NextK (ka : κ → AV) (c : β → AV) (m : List (κ × β)) (idx : List Nat) (t : Bool) (ks : List AV) (idx' : List Nat) : Prop :=
  (t = false ∧ ks = [] ∧ idx' = idx ∧ ∀ i, i < m.length → i ∈ idx) ∨ (t = true ∧ ∃ i p, m[i]? = some p ∧ i ∉ idx ∧ ks = [ka p.1, c p.2] ∧ idx' = idx ++ [i])
theorem NextK.no {ka : κ → AV} {idx idx' : List Nat} {t : Bool} {ks : List AV} (n : NextK ka c m idx t ks idx') (ht : t = false) : ks = [] ∧ idx' = idx ∧ ∀ i, i < m.length → i ∈ idx := by
  rcases n with ⟨_, h⟩ | ⟨h, _⟩
  · exact h
  · rw [ht] at h; cases h
theorem NextK.yes {ka : κ → AV} {idx idx' : List Nat} {t : Bool} {ks : List AV} (n : NextK ka c m idx t ks idx') (ht : t = true) : ∃ i p, m[i]? = some p ∧ i ∉ idx ∧ ks = [ka p.1, c p.2] ∧ idx' = idx ++ [i] := by
  rcases n with ⟨h, _⟩ | ⟨_, h⟩
  · rw [ht] at h; cases h
  · exact h
theorem own_mapKIt {b r : Nat} {kvs : List (Value × AV)} {idx : List Nat} {h' : List HA} (hs : Spl h (.mapKIt b r kvs idx) h') : b ∈ owns h ∧ r ∈ owns h := ⟨owns_spl hs (by simp [HA.own]), owns_spl hs (by simp [HA.own])⟩
theorem mapKIt_ne {F : Nat → Prop} {w : World} {b r : Nat} {kvs : List (Value × AV)} {idx : List Nat} {h' : List HA} (hr : R F h w) (hs : Spl h (.mapKIt b r kvs idx) h') : b ≠ r := by
  have := (owns_perm hs.perm).nodup_iff.1 hr.nd
  intro e
  simp [HA.own, e] at this
theorem oNextK {d b r : Nat} {idx : List Nat} (h1c : ∀ a, (kf a).all (·.oneCell') = true) (ho : o.op = .next x false) (hx : ev env x = some (.v (.pointer (some ⟨r, 0, none⟩))))
    (hk : ∀ t ks idx', NextK (keyA kf) c m idx t ks idx' → K ((d, .tup (.bool t :: ks)) :: env) (.mapKIt b r (kvKM kf c m) idx' :: h')) (hs : Spl h (.mapKIt b r (kvKM kf c m) idx) h' := by repeat constructor) (hd : o.dst = some d := by rfl) (hN : d < N := by decide) : AOp P N o env h K := by
  intro B F a w Q s e hdef
  have hr := s.ev hx
  generalize hv : a.eval x = v at hr
  cases hr
  obtain ⟨ents, clock, seen, h1, h2, h3, h4, h5, h6, h7⟩ := s.r.rep _ (spl_mem hs)
  have hlen : (kvKM kf c m).length = m.length := by simp [kvKM]
  rw [hlen] at h2
  have hat : ∀ (i : Nat) p, m[i]? = some p → (kvKM kf c m)[i]? = some (keyV kf p.1, c p.2) := fun i p hp => by simp [kvKM, hp]
  have hlt : ∀ {i x}, ents[i]? = some x → i < m.length := fun hi => by rw [← h2]; exact (Array.getElem?_eq_some_iff.1 hi).1
  have hold : ∀ x ∈ ents.toList, x.born < clock := fun x hx => by
    obtain ⟨i, hi⟩ := List.mem_iff_getElem?.1 hx
    have hi : ents[i]? = some x := by simpa using hi
    exact (h3 i _ x (hat i _ (List.getElem?_eq_getElem (hlt hi))) hi).2.2
  unfold Oper.wp
  rcases run_next_at (P := P) w o.type r b clock clock seen ents clock h5 h1 hold (Nat.le_refl _) with ⟨h0, hrun⟩ | ⟨en, hen, w1, hw1, hrun⟩
  · have hrun2 : (execOp a.eval o).run P w = .ok (.value (.tuple #[.bool false])) w := by simp [execOp, ho, hv, hrun]
    rw [hrun2, Oper.upon_value, hd]
    have hall : ∀ i, i < m.length → i ∈ idx := fun i hi => by
      have hi2 : i < ents.size := by omega
      have hno : seen.contains ents[i].born = true := by
        cases hc : seen.contains ents[i].born with
        | true => rfl
        | false =>
          have : ents[i] ∈ leftOf ents seen := by unfold leftOf; simp only [Array.mem_filter]; exact ⟨Array.getElem_mem hi2, by rw [hc]; rfl⟩
          have := Array.size_pos_of_mem this
          omega
      rw [Array.contains_iff_mem] at hno
      obtain ⟨j, hj, hje⟩ := Array.getElem_of_mem hno
      have hjl : j < idx.length := by omega
      obtain ⟨e', he1, he2⟩ := h7 j _ (List.getElem?_eq_getElem hjl)
      rw [Array.getElem?_eq_getElem hj, hje] at he2
      have := h4 i _ _ e' (Array.getElem?_eq_getElem hi2) he1 (Option.some.inj he2)
      rw [this]
      exact List.getElem_mem hjl
    exact ⟨hdef, F, _, _, hk false [] idx (.inl ⟨rfl, rfl, rfl, hall⟩), s.put (Ext.permR hs.perm (.refl F h w)) (s.r.perm hs.perm) hN (.tup _ _ rfl (fun j av x hj hx => by
      match j with
      | 0 => simp at hj hx; subst hj; subst hx; exact .v _
      | j + 1 => simp at hj)), e.permR hs.perm⟩
  · have hin : en ∈ ents ∧ seen.contains en.born = false := by
      have : en ∈ leftOf ents seen := by simpa using hen
      unfold leftOf at this
      simpa only [Array.mem_filter, Bool.not_eq_true'] using this
    obtain ⟨i, hi, hie⟩ := Array.getElem_of_mem hin.1
    have hi1 : ents[i]? = some en := by rw [Array.getElem?_eq_getElem hi, hie]
    have hil := hlt hi1
    have hni : i ∉ idx := fun hm => by
      obtain ⟨j, hj⟩ := List.mem_iff_getElem?.1 hm
      obtain ⟨e', he1, he2⟩ := h7 j i hj
      rw [hi1] at he1
      cases he1
      have : seen.contains en.born = true := by rw [Array.contains_iff_mem]; exact Array.mem_of_getElem? he2
      rw [hin.2] at this
      cases this
    obtain ⟨g1, g2, g3⟩ := h3 i _ en (hat i _ (List.getElem?_eq_getElem hil)) hi1
    have hrun2 : (execOp a.eval o).run P w = .ok (.value (.tuple #[.bool true, en.key, en.val])) (Go.ChangeMaps.setBlock w1 r (.mapIter (some b) clock (seen.push en.born) clock)) := by simp [execOp, ho, hv, hrun]
    have hwh : w1.heap = w.heap ∧ w1.os = w.os ∧ w1.output = w.output ∧ w1.tape = w.tape ∧ w.drawn ≤ w1.drawn := by rcases hw1 with rfl | rfl <;> exact ⟨rfl, rfl, rfl, rfl, by first | exact Nat.le_refl _ | exact Nat.le_succ _⟩
    have hbr := mapKIt_ne s.r hs
    have hrlt := s.r.lt r (own_mapKIt hs).2
    have hoth : ∀ k, k ≠ r → (Go.ChangeMaps.setBlock w1 r (.mapIter (some b) clock (seen.push en.born) clock)).heap[k]? = w.heap[k]? := fun k hk => by
      show (w1.heap.setIfInBounds r _)[k]? = _
      rw [hwh.1, Array.getElem?_setIfInBounds, if_neg (Ne.symm hk)]
    have hown : (Go.ChangeMaps.setBlock w1 r (.mapIter (some b) clock (seen.push en.born) clock)).heap[r]? = some (.mapIter (some b) clock (seen.push en.born) clock) := by
      show (w1.heap.setIfInBounds r _)[r]? = _
      rw [hwh.1]
      simp [hrlt]
    have hset : ∀ k, F k → (Go.ChangeMaps.setBlock w1 r (.mapIter (some b) clock (seen.push en.born) clock)).heap[k]? = w.heap[k]? := fun k hk => hoth k (fun e => (s.r.sep k hk).2 (e ▸ (own_mapKIt hs).2))
    obtain ⟨hR, hE⟩ := s.r.upd (hdr := hwh.2.2.2.2) (w' := Go.ChangeMaps.setBlock w1 r (.mapIter (some b) clock (seen.push en.born) clock)) (x' := .mapKIt b r (kvKM kf c m) (idx ++ [i])) hs rfl hwh.2.1 hwh.2.2.1 hwh.2.2.2.1 (by show (w1.heap.setIfInBounds r _).size = _; rw [hwh.1]; simp)
      (fun k hk => hoth k (fun e => hk (by simp [HA.own, e])))
      ⟨ents, clock, seen.push en.born, by rw [hoth b hbr]; exact h1, by rw [h2, hlen], fun i kv e a b => ⟨(h3 i kv e a b).1, (h3 i kv e a b).2.1.mono (fun _ h => h) hset, (h3 i kv e a b).2.2⟩, h4, hown, by simp [h6], fun j k hj => by
        by_cases hjl : j < idx.length
        · rw [List.getElem?_append_left hjl] at hj
          obtain ⟨e', he1, he2⟩ := h7 j k hj
          exact ⟨e', he1, by rw [Array.getElem?_push, if_neg (by omega)]; exact he2⟩
        · rw [List.getElem?_append_right (by omega)] at hj
          have hj0 : j = idx.length := by
            have := (List.getElem?_eq_some_iff.1 hj).1
            simp at this
            omega
          subst hj0
          simp at hj
          subst hj
          exact ⟨en, hi1, by rw [Array.getElem?_push, if_pos h6.symm]⟩⟩
    rw [hrun2, Oper.upon_value, hd]
    refine ⟨hdef, F, _, _, hk true _ _ (.inr ⟨rfl, i, m[i], List.getElem?_eq_getElem hil, hni, rfl, rfl⟩), s.put hE hR hN (.tup _ _ rfl (fun j av x hj hx => ?_)), e.trans hE⟩
    match j with
    | 0 => simp at hj hx; subst hj; subst hx; exact .v _
    | 1 => simp at hj hx; subst hj; subst hx; rw [g1]; exact rep_keyV (h1c _) _ _
    | 2 => simp at hj hx; subst hj; subst hx; exact g2.mono (fun _ h => h) hset
    | j + 3 => simp at hj
theorem rEntryK {b r j : Nat} {p : κ × β} {idx : List Nat} (h1c : ∀ a, (kf a).all (·.oneCell') = true) (ho : o.op = .entry x) (hx : ev env x = some (.v (.pointer (some ⟨r, 0, none⟩)))) (hk : m[j]? = some p) (hs : Spl h (.mapKIt b r (kvKM kf c m) (idx ++ [j])) h' := by repeat constructor) :
    ARead P N o env h (.tup [keyA kf p.1, c p.2]) := by
  intro F a w s
  have hr := s.ev hx
  generalize hv : a.eval x = v at hr
  cases hr
  obtain ⟨ents, clock, seen, h1, h2, h3, h4, h5, h6, h7⟩ := s.r.rep _ (spl_mem hs)
  obtain ⟨en, he1, he2⟩ := h7 idx.length j (by simp)
  obtain ⟨bs, cl, rfl⟩ := Array.eq_push_of_size_ne_zero (xs := seen) (by rw [h6]; simp)
  have hbs : bs.size = idx.length := by simpa using h6
  rw [Array.getElem?_push, if_pos hbs.symm] at he2
  obtain rfl := Option.some.inj he2
  obtain ⟨g1, g2, _⟩ := h3 j (keyV kf p.1, c p.2) en (by simp [kvKM, hk]) he1
  have hnd : (ents.toList.map (·.born)).Nodup := by
    rw [List.nodup_iff_pairwise_ne, List.pairwise_iff_getElem]
    intro p q hp hq hlt he
    simp only [List.getElem_map, List.length_map] at he hp hq
    have := h4 p q _ _ (Array.getElem?_eq_getElem (by simpa using hp)) (Array.getElem?_eq_getElem (by simpa using hq)) (by simpa using he)
    omega
  refine ⟨.tuple #[en.key, en.val], .tup _ _ rfl (fun j av x hj hx => ?_), fun w' hw => ?_⟩
  · match j with
    | 0 => simp at hj hx; subst hj; subst hx; rw [g1]; exact rep_keyV (h1c _) _ _
    | 1 => simp at hj hx; subst hj; subst hx; exact g2
    | j + 2 => simp at hj
  · have k1 := (hw r (.inr (own_mapKIt hs).2)).trans h5
    have k2 := (hw b (.inr (own_mapKIt hs).1)).trans h1
    have hrun := run_entry_at (P := P) w' r b clock bs ents clock en k1 k2 (by simpa using Array.mem_of_getElem? he1) hnd
    simp [execOp, ho, hv, hrun]
theorem cast_key {κ : Type} {kf : κ → List Value} {a : κ} (h1 : (kf a).all (·.oneCell') = true) : Cast (.v (keyV kf a)) (keyA kf a) := fun F w x hx => by cases hx; exact rep_keyV h1 F w
/-- The range is over: the map is a map again. -/
theorem weak_unmapK {b r : Nat} {kvs : List (Value × AV)} {idx : List Nat} {h' : List HA} (hs : Spl h (.mapKIt b r kvs idx) h') : Weak N env h env (.mapK b kvs :: h') := by
  intro F a w s
  have hp : (owns h).Perm (b :: r :: owns h') := owns_perm hs.perm
  have sub : ∀ k ∈ owns (HA.mapK b kvs :: h'), k ∈ owns h := fun k hk => by
    have hk : k ∈ b :: owns h' := hk
    refine hp.mem_iff.2 ?_
    simp only [List.mem_cons] at hk ⊢
    exact hk.imp id .inr
  have nd : (owns (HA.mapK b kvs :: h')).Nodup := by
    have := hp.nodup_iff.1 s.r.nd
    show (b :: owns h').Nodup
    simp only [List.nodup_cons, List.mem_cons, not_or] at this ⊢
    exact ⟨this.1.2, this.2.2⟩
  refine ⟨F, ⟨s.r.same nd sub (fun y hy => ?_), s.size, s.env⟩, .same sub⟩
  rcases List.mem_cons.1 hy with rfl | hy
  · obtain ⟨ents, clock, seen, h1, h2, h3, h4, _⟩ := s.r.rep _ (spl_mem hs)
    exact ⟨ents, clock, h1, h2, h3, h4⟩
  · exact s.r.rep y (hs.perm.mem_iff.2 (by simp [hy]))
end
end A
end Go.Proofs.Ytmcannmjielalaa
set_option linter.unusedVariables false
set_option linter.unusedSimpArgs false
set_option linter.unusedSectionVars false
namespace Go.Proofs.Ytmcannmjielalaa
namespace A
variable {P : Program} {N : Nat} {env : Env} {h : List HA} {K : Cont} {X : List (Nat × Cont)} {Rt : Cont}
/-- A whole element of a slice of one's own. -/
theorem oStE {o : Oper} {t : TypeId} {x y : Operand} {b c e sz : Nat} {g : Bool} {α : Type} {fC : α → List AV} {l : List α} {a : α} {i : Int} {av : AV} {h' : List HA} (ho : o.op = .store t x y) (hd : o.dst = none) (hx : ev env x = some (.v (.pointer (some ⟨b, 0 + i.toNat * sz, none⟩)))) (hy : ev env y = some av)
    (ht : tyOf P t = some (sz, g)) (hk : K env (.sl (some b) c e sz ((l.set i.toNat a).map fC) :: h')) (hs : Spl h (.sl (some b) c e sz (l.map fC)) h' := by repeat constructor) (ha : avCells av = fC a := by rfl) (hn : ∀ z, (fC z).length = sz := by intro z; rfl) (h1 : oneOf av = true := by rfl) (hi : i.toNat < l.length := by omega) : AOp P N o env h K := by
  obtain ⟨z, hz⟩ : ∃ z, l[i.toNat]? = some z := ⟨_, List.getElem?_eq_getElem hi⟩
  refine oStS (j := 0) (yy := fC z) ho hd hx hy hs ht (by rw [ha, hn]) (by omega) (map_get hz) (by omega) h1 ?_
  rw [ha, setCells_all (by rw [hn, hn])]
  rw [← List.map_set]
  exact hk
theorem rArR2 {o : Oper} {t : TypeId} {y : Operand} {i : Int} {β : Type} {g : β → AV} {f : Int → β} {pre : List AV} {n b p : Nat} {h' : List HA} (ht : tyOf P t = some (1, false)) (ho : o.op = .load t y := by rfl) (hx : ev env y = some (.v (.pointer (some ⟨b, p + i.toNat * 1, none⟩))) := by rfl) (hs : Spl h (.box b (pre ++ arrF n (fun x => [g x]) f)) h' := by repeat constructor) (hp : pre.length = p := by first | rfl | exact arrF_len one_len) (h0 : 0 ≤ i := by omega) (h1 : i < n := by omega) : ARead P N o env h (g (f i)) :=
  rArR ht hp ho hx hs h0 h1
/-! ### Maps whose values are slices of one's own -/
structure SlE (α : Type) where
  g : Option Nat
  c : Nat
  l : List α
def slE {α : Type} (s : SlE α) : AV := .v (slV s.g s.l.length s.c)
def slH {α : Type} (e : TypeId) (sz : Nat) (f : α → List AV) (s : SlE α) : HA := .sl s.g s.c e sz (s.l.map f)
def msH {α : Type} (e : TypeId) (sz : Nat) (f : α → List AV) (m : List (Int × SlE α)) : List HA := m.map fun p => slH e sz f p.2
section
variable {α : Type} {e : TypeId} {sz : Nat} {f : α → List AV}
theorem mDel_perm {β : Type} {n : Int} {v : β} : ∀ {m : List (Int × β)}, mGet m n = some v → m.Perm ((n, v) :: mDel m n)
  | [], h => by cases h
  | (k, u) :: t, h => by
    simp only [mGet] at h
    simp only [mDel]
    split at h
    · rename_i e; cases h; subst e; rw [if_pos rfl]
    · rename_i hne; rw [if_neg hne]; exact ((mDel_perm h).cons _).trans (.swap _ _ _)
theorem mPut_perm {β : Type} {n : Int} {v : β} : ∀ {m : List (Int × β)}, (mPut m n v).Perm ((n, v) :: mDel m n)
  | [] => .refl _
  | (k, u) :: t => by
    simp only [mPut, mDel]
    by_cases h : n = k
    · rw [if_pos h, if_pos h]
    · rw [if_neg h, if_neg h]; exact ((mPut_perm (m := t)).cons _).trans (.swap _ _ _)
theorem mDel_none {β : Type} {n : Int} : ∀ {m : List (Int × β)}, mGet m n = none → mDel m n = m
  | [], _ => rfl
  | (k, u) :: t, h => by
    simp only [mGet] at h
    split at h
    · cases h
    · rename_i hne; simp only [mDel]; rw [if_neg hne, mDel_none h]
def sl0 {α : Type} : SlE α := ⟨none, 0, []⟩
def slAt {α : Type} (m : List (Int × SlE α)) (n : Int) : SlE α := (mGet m n).getD sl0
theorem msH_put {m : List (Int × SlE α)} {n : Int} {s : SlE α} : (msH e sz f (mPut m n s)).Perm (slH e sz f s :: msH e sz f (mDel m n)) := (mPut_perm (n := n) (v := s) (m := m)).map _
/-- The slice at a key, nil where there is none. -/
theorem weak_takeS {h0 : List HA} {m : List (Int × SlE α)} (n : Int) : Weak N env (h0 ++ msH e sz f m) env (.sl (slAt m n).g (slAt m n).c e sz ((slAt m n).l.map f) :: (h0 ++ msH e sz f (mDel m n))) := by
  show Weak N env (h0 ++ msH e sz f m) env (slH e sz f (slAt m n) :: (h0 ++ msH e sz f (mDel m n)))
  unfold slAt
  cases hm : mGet m n with
  | none => rw [mDel_none hm]; exact weak_nil e sz
  | some s =>
    refine weak_perm ?_
    have h1 : (msH e sz f m).Perm (slH e sz f s :: msH e sz f (mDel m n)) := (mDel_perm hm).map _
    exact (h1.append_left h0).trans (List.perm_middle)
theorem weak_putS {h0 : List HA} {m : List (Int × SlE α)} {n : Int} {g : Option Nat} {c : Nat} {l : List α} : Weak N env (.sl g c e sz (l.map f) :: (h0 ++ msH e sz f (mDel m n))) env (h0 ++ msH e sz f (mPut m n ⟨g, c, l⟩)) :=
  weak_perm ((List.perm_middle.symm).trans (((msH_put (s := ⟨g, c, l⟩)).symm).append_left h0))
theorem slAt_put {m : List (Int × SlE α)} {n k : Int} {s : SlE α} : slAt (mPut m n s) k = if k = n then s else slAt m k := by
  unfold slAt
  rw [mGet_put]
  split <;> rfl
/-- A slice that a map holds is not written any more. -/
theorem weak_settleE {b j n c : Nat} {k : Int} {g : Option Nat} {es : List (List AV)} {kvs : List (Int × AV)} {h' : List HA} (hp : h.Perm (.map b kvs :: .sl g c e sz es :: h')) (hj : kvs[j]? = some (k, .v (slV g n c))) (hn : n = es.length) : Weak N env h env (.map b (kvs.set j (k, .sl sz es)) :: h') := fun F a w s => by
  subst hn
  have r1 := s.r.perm hp
  have hr := r1.rep (.sl g c e sz es) (by simp)
  have hF' : ∀ b, F b → (F b ∨ g = some b) := fun b hb => .inl hb
  have hgo : ∀ b, g = some b → b ∈ (HA.sl g c e sz es).own := fun b hb => by subst hb; simp [HA.own]
  have hnd := r1.nd
  have hown : (owns (HA.map b kvs :: HA.sl g c e sz es :: h')).Perm ((HA.sl g c e sz es).own ++ owns (HA.map b kvs :: h')) := by
    simp only [owns_cons]
    rw [← List.append_assoc, ← List.append_assoc]
    exact List.perm_append_comm.append_right _
  have hnd2 := (hown.nodup_iff).1 hnd
  refine ⟨fun b => F b ∨ g = some b, ⟨⟨fun x hx => ?_, (List.nodup_append.1 hnd2).2.1, fun b' hb => r1.lt b' (hown.mem_iff.2 (List.mem_append_right _ hb)), fun b' hb => ?_⟩, s.size, fun j av hj => (s.env j av hj).mono hF' (fun _ _ => rfl)⟩, ⟨rfl, rfl, rfl, Nat.le_refl _, fun _ _ _ => rfl, fun b' hb => .inl ((owns_perm hp).mem_iff.2 (hown.mem_iff.2 (List.mem_append_right _ hb))), hF', fun b' hb => hb.imp id (fun e => .inl ((owns_perm hp).mem_iff.2 (hown.mem_iff.2 (List.mem_append_left _ (hgo b' e))))), Nat.le_refl _⟩⟩
  · rcases List.mem_cons.1 hx with rfl | hx
    · obtain ⟨ents, clock, h1, h2, h3, h4⟩ := r1.rep (.map b kvs) (by simp)
      refine ⟨ents, clock, h1, by rw [List.length_set]; exact h2, fun i kv en hi he => ?_, h4⟩
      by_cases hij : j = i
      · subst hij
        rw [List.getElem?_set_self (List.getElem?_eq_some_iff.1 hj).1] at hi
        cases hi
        obtain ⟨a1, a2, a3⟩ := h3 j _ en hj he
        refine ⟨a1, ?_, a3⟩
        simp only at a2 ⊢
        generalize hq : en.val = v at a2
        cases a2
        exact own_settled hr hF' (fun b hb => .inr hb)
      · rw [List.getElem?_set_ne hij] at hi
        obtain ⟨a1, a2, a3⟩ := h3 i kv en hi he
        exact ⟨a1, a2.mono hF' (fun _ _ => rfl), a3⟩
    · exact (r1.rep x (by simp [hx])).mono hF' (fun _ _ => rfl) (fun _ _ => rfl)
  · rcases hb with hb | hb
    · have := r1.sep b' hb; exact ⟨this.1, fun hm => this.2 (hown.mem_iff.2 (List.mem_append_right _ hm))⟩
    · exact ⟨r1.lt b' (hown.mem_iff.2 (List.mem_append_left _ (hgo b' hb))), fun hm => (List.nodup_append.1 hnd2).2.2 b' (hgo b' hb) b' hm rfl⟩
def slS {α : Type} (sz : Nat) (f : α → List AV) (l : List α) : AV := .sl sz (l.map f)
def msL {α : Type} (m : List (Int × SlE α)) : List (Int × List α) := m.map fun p => (p.1, p.2.l)
theorem msL_get {m : List (Int × SlE α)} (n : Int) : mGet (msL m) n = (mGet m n).map (·.l) := by
  induction m with
  | nil => rfl
  | cons p t ih =>
    obtain ⟨k, s⟩ := p
    show (if n = k then some s.l else mGet (msL t) n) = Option.map _ (if n = k then some s else mGet t n)
    rw [ih]
    split <;> rfl
theorem weak_settleMS {b : Nat} {m : List (Int × SlE α)} : Weak N env (.map b (kvM slE m) :: msH e sz f m) env [.map b (kvM (slS sz f) (msL m))] := by
  have key : ∀ (pre : List (Int × AV)) (m : List (Int × SlE α)), Weak N env (.map b (pre ++ kvM slE m) :: msH e sz f m) env [.map b (pre ++ kvM (slS sz f) (msL m))] := fun pre m => by
    induction m generalizing pre with
    | nil => exact weak_refl
    | cons p t ih =>
      obtain ⟨k, s⟩ := p
      have h1 : (pre ++ kvM slE ((k, s) :: t))[pre.length]? = some (k, .v (slV s.g s.l.length s.c)) := by
        rw [List.getElem?_append_right (Nat.le_refl _), Nat.sub_self]; rfl
      refine (weak_settleE (b := b) (e := e) (sz := sz) (es := s.l.map f) (h' := msH e sz f t) (.refl _) h1 (by rw [List.length_map])).trans ?_
      have h2 : (pre ++ kvM slE ((k, s) :: t)).set pre.length (k, .sl sz (s.l.map f)) = (pre ++ [(k, slS sz f s.l)]) ++ kvM slE t := by
        rw [List.set_append_right _ _ (Nat.le_refl _), Nat.sub_self, List.append_assoc]
        rfl
      rw [h2]
      have h3 : pre ++ kvM (slS sz f) (msL ((k, s) :: t)) = (pre ++ [(k, slS sz f s.l)]) ++ kvM (slS sz f) (msL t) := by
        rw [List.append_assoc]; rfl
      rw [h3]
      exact ih _
  have := key [] m
  simpa using this
end
/-! ### Parts of a slice of one's own -/
theorem pSlO {o : Oper} {t : TypeId} {x : Operand} {lo hi : Option Operand} {g : Option Nat} {sz n c l m : Nat} (ho : o.op = .slice t x lo hi none) (hx : ev env x = some (.v (slV g n c))) (ht : elemSize P t = some sz) (hl : BoundIs env lo 0 l) (hm : BoundIs env hi n m)
    (h1 : l ≤ m) (h2 : m ≤ c) : APure P N o env (.v (.slice (if c = l then g.map fun b => ⟨b, 0, none⟩ else g.map fun b => ⟨b, l * sz, none⟩) (m - l) (c - l))) := by
  intro F h a w st
  have hr := st.ev hx
  generalize hv : a.eval x = v at hr
  cases hr
  obtain ⟨el, g', hu, hs⟩ := elemSize_spec ht
  refine ⟨_, .v _, fun w' => ?_⟩
  simp only [execOp, ho, hv, Instr.sliceAt, Instr.slice, Sem.run_bind, Sem.run_pure, Result.andThen_ok, run_underlying' hu, Option.map_none, slV]
  have := run_bounds (P := P) st hl (len := n) (cap := c) hm h1 h2 true w'
  simp only [this, Result.andThen_ok, run_sizeOf hs, Sem.run_bind, Sem.run_pure]
  cases g <;> simp [add_none]
theorem pSlHi {o : Oper} {t : TypeId} {x : Operand} {hi : Option Operand} {g : Option Nat} {sz n c m : Nat} (ho : o.op = .slice t x none hi none) (hx : ev env x = some (.v (slV g n c))) (ht : elemSize P t = some sz) (hm : BoundIs env hi n m) (h2 : m ≤ c) : APure P N o env (.v (slV g m c)) := by
  have h := pSlO (P := P) (N := N) ho hx ht (bdN rfl) hm (Nat.zero_le _) h2
  have e : (Value.slice (if c = 0 then g.map fun b => (⟨b, 0, none⟩ : Addr) else g.map fun b => ⟨b, 0 * sz, none⟩) (m - 0) (c - 0)) = slV g m c := by
    rw [Nat.zero_mul]; simp [slV]
  rw [e] at h
  exact h
theorem own_cap {F : Nat → Prop} {w : World} {g : Option Nat} {c e sz : Nat} {es : List (List AV)} (hr : HARep F w (.sl g c e sz es)) : es.length ≤ c ∧ (g = none → c = 0 ∧ es = []) := by
  obtain ⟨xs, ⟨h1, h2⟩, h3, h4, h5⟩ := hr
  rcases h2 with ⟨hv, hn⟩ | ⟨g', cap, cur, hv, _, hg, hnc, hcm, hcs, htake⟩
  · cases g with
    | none =>
      simp [slV] at hv
      have : es = [] := hv.1
      subst this
      exact ⟨Nat.zero_le _, fun _ => ⟨hv.2, rfl⟩⟩
    | some b => simp [slV] at hv
  · cases g with
    | none => simp [slV] at hv
    | some b => simp [slV] at hv; exact ⟨by omega, fun h => by cases h⟩
theorem aCap {cd : Code} {g : Option Nat} {c e sz : Nat} {es : List (List AV)} {h' : List HA} (hs : Spl h (.sl g c e sz es) h') (k : es.length ≤ c → AWP P N cd env h K X Rt) : AWP P N cd env h K X Rt := by
  intro ro F a w hro s
  exact k (own_cap (s.r.rep _ (spl_mem hs))).1 ro F a w hro s
theorem weak_cut {g : Option Nat} {c e sz : Nat} {es : List (List AV)} {h' : List HA} (m : Nat) (hs : Spl h (.sl g c e sz es) h') : Weak N env h env (.sl g c e sz (es.take m) :: h') := by
  intro F a w s
  have hp : (owns h).Perm ((HA.sl g c e sz es).own ++ owns h') := owns_perm hs.perm
  have e1 : (HA.sl g c e sz (es.take m)).own = (HA.sl g c e sz es).own := by cases g <;> rfl
  have sub : ∀ k ∈ owns (HA.sl g c e sz (es.take m) :: h'), k ∈ owns h := fun k hk => by
    rw [owns_cons, e1] at hk
    exact hp.mem_iff.2 hk
  have nd : (owns (HA.sl g c e sz (es.take m) :: h')).Nodup := by
    rw [owns_cons, e1]
    exact hp.nodup_iff.1 s.r.nd
  refine ⟨F, ⟨s.r.same nd sub (fun y hy => ?_), s.size, s.env⟩, .same sub⟩
  rcases List.mem_cons.1 hy with rfl | hy
  · obtain ⟨xs, ⟨h1, h2⟩, h3, h4, h5⟩ := s.r.rep _ (spl_mem hs)
    have hle : (es.take m).length ≤ es.length := by rw [List.length_take]; omega
    have hmul : (es.take m).length * sz ≤ es.length * sz := Nat.mul_le_mul_right _ hle
    refine ⟨xs.take ((es.take m).length * sz), ⟨by rw [List.length_take, h1]; omega, ?_⟩, fun y hy => h3 y (List.mem_of_mem_take hy), fun x hx => h4 x (List.mem_of_mem_take hx), fun i j y av x hi hj hx => ?_⟩
    · rcases h2 with ⟨hv, hn⟩ | ⟨g', cap, cur, hv, h0, hg, hnc, hcm, hcs, htake⟩
      · left
        have h0 : (es.take m).length = 0 := by omega
        refine ⟨?_, h0⟩
        simp only [slV, Value.slice.injEq] at hv ⊢
        exact ⟨hv.1, by omega, hv.2.2⟩
      · right
        refine ⟨g', cap, cur, ?_, h0, hg, by omega, hcm, hcs, ?_⟩
        · simp only [slV, Value.slice.injEq] at hv ⊢
          exact ⟨hv.1, trivial, hv.2.2⟩
        · rw [← htake, List.take_take, Nat.min_eq_left hmul]
    · have hil := (List.getElem?_eq_some_iff.1 hi).1
      rw [List.getElem?_take] at hi
      have hi2 : es[i]? = some y := by
        split at hi
        · exact hi
        · cases hi
      refine h5 i j y av x hi2 hj ?_
      rw [List.getElem?_take] at hx
      split at hx
      · exact hx
      · cases hx
  · exact s.r.rep y (hs.perm.mem_iff.2 (by simp [hy]))
end A
end Go.Proofs.Ytmcannmjielalaa
