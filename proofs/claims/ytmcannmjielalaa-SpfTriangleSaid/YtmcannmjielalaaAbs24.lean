/- Appends to lists of one kind; slices of one's own, read; whether a slice is nil. Over any program. -/
import Derived.Test.YtmcannmjielalaaAbs23
set_option linter.unusedVariables false
set_option linter.unusedSimpArgs false
namespace Go.Proofs.Ytmcannmjielalaa
namespace A

variable {P : Program} {N : Nat} {env : Env} {h : List HA} {K : Cont} {X : List (Nat × Cont)} {Rt : Cont}

theorem map_get {α : Type} {f : α → List AV} {l : List α} {i : Nat} {a : α} (h : l[i]? = some a) : (l.map f)[i]? = some (f a) := by rw [List.getElem?_map, h]; rfl
def prevA {α : Type} (l : List α) (i : Nat) : Option α := if i = 0 then none else l[i - 1]?
theorem prevA_succ {α : Type} {l : List α} {i : Nat} {a : α} (h : l[i]? = some a) : prevA l (i + 1) = some a := by simp [prevA, h]
theorem take_step {α : Type} {l : List α} {i : Nat} {a : α} (h : l[i]? = some a) : l.take (i + 1) = l.take i ++ [a] := by rw [List.take_add_one, h]; rfl
theorem drop_step {α : Type} {l : List α} {i : Nat} {a : α} (h : l[i]? = some a) : l.drop i = a :: l.drop (i + 1) := by
  have hl := (List.getElem?_eq_some_iff.1 h).1
  rw [List.drop_eq_getElem_cons hl]
  rw [List.getElem?_eq_getElem hl] at h
  rw [Option.some.inj h]
theorem filter_step {α : Type} {p : α → Bool} {l : List α} {i : Nat} {a : α} (h : l[i]? = some a) : (l.take (i + 1)).filter p = if p a then (l.take i).filter p ++ [a] else (l.take i).filter p := by
  rw [take_step h, List.filter_append]
  cases hp : p a <;> simp [hp]
theorem filter_yes {α : Type} {p : α → Bool} {l : List α} {i : Nat} {a : α} (h : l[i]? = some a) (hp : p a = true) : (l.take (i + 1)).filter p = (l.take i).filter p ++ [a] := by rw [filter_step h, if_pos hp]
theorem filter_no {α : Type} {p : α → Bool} {l : List α} {i : Nat} {a : α} (h : l[i]? = some a) (hp : p a = false) : (l.take (i + 1)).filter p = (l.take i).filter p := by rw [filter_step h, hp]; rfl
theorem take_all {α : Type} {l : List α} {i : Nat} (h : l.length ≤ i) : l.take i = l := List.take_of_length_le h
theorem len_get {α : Type} {l : List α} {i : Nat} {a : α} (h : l[i]? = some a) : i < l.length := (List.getElem?_eq_some_iff.1 h).1

theorem oAppT {α : Type} {fC : α → List AV} {out : List α} (xs : List α) {o : Oper} {t t' e : TypeId} {x y : Operand} {sz by_ d n c : Nat} {g : Option Nat} {h' : List HA} (ho : o.op = .call ⟨.builtin .append, #[x, y], #[t, t']⟩) (hx : ev env x = some (.v (slV g n c))) (hs : Spl h (.sl g c e sz (out.map fC)) h')
    (hy : SrcIs env h y sz (xs.map fC)) (ht : elemOf P t = some (e, sz, by_)) (ht' : isSl P t' = true) (k : ∀ g' c', K ((d, .v (slV g' (out ++ xs).length c')) :: env) (.sl g' c' e sz ((out ++ xs).map fC) :: h'))
    (hd : o.dst = some d := by rfl) (hN : d < N := by decide) (hn : n = out.length := by first | rfl | simp) (hz : ∀ a, (fC a).length = sz := by exact (fun _ => rfl)) (hb : out.length + xs.length ≤ 100000000 := by first | omega | (simp; omega) | (simp at *; omega)) (hb2 : by_ ≤ 1000000 := by decide) : AOp P N o env h K := by
  refine oApp ho hd hN hx hs (by rw [List.length_map]; exact hn) hy ht ht' (fun z hm => ?_) (by simp; omega) ?_ (fun g' c' => ?_)
  · obtain ⟨a, _, rfl⟩ := List.mem_map.1 hm; exact hz a
  · rw [List.length_map, List.length_map]
    calc (out.length + xs.length) * by_ ≤ 100000000 * 1000000 := Nat.mul_le_mul hb hb2
      _ ≤ _ := by decide
  · have e1 : (out.map fC).length + (xs.map fC).length = (out ++ xs).length := by simp
    rw [e1, ← List.map_append]
    exact k g' c'

/-- A slice held against nil: of one without elements nothing is known. -/
theorem oSlNil {o : Oper} {op : BinOp} {t t' : TypeId} {xo : Operand} {sz d : Nat} {es : List (List AV)} (hop : o.op = .binOp op t xo (.const (.slice none 0 0)) t') (hb : op = .eql ∨ op = .neq) (hx : ev env xo = some (.sl sz es)) (ht : isSl P t = true) (hd : o.dst = some d) (hN : d < N)
    (k : ∀ q : Bool, (es ≠ [] → q = !(decide (op = .eql))) → K ((d, .bool q) :: env) h) : AOp P N o env h K := by
  obtain ⟨e, hu⟩ := isSl_spec ht
  intro B F a w Q st e2 hdef
  have hr := st.ev hx
  generalize hv : a.eval xo = x at hr
  have hc : a.eval (.const (.slice none 0 0)) = .slice none 0 0 := rfl
  have key : ∀ q : Bool, (∀ w', (execOp a.eval o).run P w' = .ok (.value (.bool q)) w') → (es ≠ [] → q = !(decide (op = .eql))) → o.wp P a w (Good N B K) Q := fun q hq hne => by
    unfold Oper.wp
    rw [hq w, Oper.upon_value, hd]
    exact ⟨hdef, F, _, h, k q hne, st.put (.refl F h w) st.r hN (.v _), e2⟩
  cases hr with
  | sl0 _ ad c =>
    have he : ∀ w', (Op.equal t (.slice ad 0 c) (.slice none 0 0)).run P w' = .ok ad.isNone w' := fun w' => run_eqSlR 9999 hu _ _ _ w'
    rcases hb with rfl | rfl
    · exact key ad.isNone (fun w' => by simp [execOp, hop, hv, hc, eqGuard, binOp, he]) (fun h => absurd rfl h)
    · exact key (!ad.isNone) (fun w' => by simp [execOp, hop, hv, hc, eqGuard, binOp, he]) (fun h => absurd rfl h)
  | sl _ _ b o' c X hF hcc hz hX h1 hR =>
    have he : ∀ w', (Op.equal t (.slice (some ⟨b, o', none⟩) es.length c) (.slice none 0 0)).run P w' = .ok false w' := fun w' => run_eqSlR 9999 hu _ _ _ w'
    rcases hb with rfl | rfl
    · exact key false (fun w' => by simp [execOp, hop, hv, hc, eqGuard, binOp, he]) (fun _ => rfl)
    · exact key true (fun w' => by simp [execOp, hop, hv, hc, eqGuard, binOp, he]) (fun _ => rfl)

/-! ### Whole numbers of other kinds, where nothing is cut off -/
section
variable {o : Oper} {t t' : TypeId} {xo yo : Operand} {x y n : Int} {k k' k0 : IntKind}
theorem run_arK {op : BinOp} {w v : Int} (ho : o.op = .binOp op t xo yo t') (hx : ev env xo = some (.v (.int k x))) (hy : ev env yo = some (.v (.int k y))) (hb : binVal op (.int k x) (.int k y) = some (.int k w)) (hw : w = v) : APure P N o env (.v (.int k v)) := pBin ho hx hy hb (by rw [hw])
theorem pAdK (ho : o.op = .binOp .add t xo yo t' := by rfl) (hx : ev env xo = some (.v (.int k x)) := by rfl) (hy : ev env yo = some (.v (.int k y)) := by rfl) (hb : binVal .add (.int k x) (.int k y) = some (.int k (k.wrap (x + y))) := by rfl) (hw : k.wrap (x + y) = x + y := by first | exact wrap_u64 (by omega) (by omega) | exact wrap_u32 (by omega) (by omega) | exact wrap_u8 (by omega) (by omega)) : APure P N o env (.v (.int k (x + y))) := run_arK ho hx hy hb hw
theorem pSuK (ho : o.op = .binOp .sub t xo yo t' := by rfl) (hx : ev env xo = some (.v (.int k x)) := by rfl) (hy : ev env yo = some (.v (.int k y)) := by rfl) (hb : binVal .sub (.int k x) (.int k y) = some (.int k (k.wrap (x - y))) := by rfl) (hw : k.wrap (x - y) = x - y := by first | exact wrap_u64 (by omega) (by omega) | exact wrap_u32 (by omega) (by omega) | exact wrap_u8 (by omega) (by omega)) : APure P N o env (.v (.int k (x - y))) := run_arK ho hx hy hb hw
theorem pMuK (ho : o.op = .binOp .mul t xo yo t' := by rfl) (hx : ev env xo = some (.v (.int k x)) := by rfl) (hy : ev env yo = some (.v (.int k y)) := by rfl) (hb : binVal .mul (.int k x) (.int k y) = some (.int k (k.wrap (x * y))) := by rfl) (hw : k.wrap (x * y) = x * y := by first | exact wrap_u64 (by omega) (by omega) | exact wrap_u32 (by omega) (by omega) | exact wrap_u8 (by omega) (by omega)) : APure P N o env (.v (.int k (x * y))) := run_arK ho hx hy hb hw
theorem pCvK (ht0 : intKindOf P t = some k0) (ht : intKindOf P t' = some k') (ho : o.op = .convert t t' xo := by rfl) (hx : ev env xo = some (.v (.int k n)) := by rfl) (hw : k'.wrap n = n := by first | exact wrap_i64 (by omega) (by omega) | exact wrap_u64 (by omega) (by omega) | exact wrap_u32 (by omega) (by omega) | exact wrap_u8 (by omega) (by omega)) : APure P N o env (.v (.int k' n)) := pConv ho hx ht0 ht hw
end

/-! ### What is held against each other; a whole box written -/
def eqF {β : Type} [BEq β] (n : Nat) (f g : Int → β) : Bool := (List.range n).all fun i => f (i : Int) == g (i : Int)
theorem eqF_iff {β : Type} [BEq β] [LawfulBEq β] {n : Nat} {f g : Int → β} : eqF n f g = true ↔ ∀ i : Int, 0 ≤ i → i < n → f i = g i := by
  unfold eqF
  rw [List.all_eq_true]
  constructor
  · intro h i h0 h1
    have := h i.toNat (List.mem_range.2 (by omega))
    rw [Int.toNat_of_nonneg h0] at this
    simpa using this
  · intro h i hi
    have := h i (by omega) (by have := List.mem_range.1 hi; omega)
    simpa using this
theorem leaves_arr {β : Type} [BEq β] {k : EQ} {c : β → AV} {f g : Int → β} {xs ys : List AV} (hk : ∀ a b, eqLeaf k (c a) (c b) = some (a == b)) : ∀ is : List Nat, (∀ i ∈ is, xs[i]? = some (c (f (i : Int))) ∧ ys[i]? = some (c (g (i : Int)))) → eqLeaves (is.map fun i => (i, k)) xs ys = some (is.all fun i => f (i : Int) == g (i : Int))
  | [], _ => rfl
  | i :: is, h => by
    have h1 := h i (by simp)
    have ih := leaves_arr (k := k) (f := f) (g := g) hk is (fun j hj => h j (by simp [hj]))
    simp only [List.map_cons, eqLeaves, h1.1, h1.2, hk, ih, List.all_cons]
theorem leaves_arrF {β : Type} [BEq β] {k : EQ} {c : β → AV} {f g : Int → β} {n : Nat} (hk : ∀ a b, eqLeaf k (c a) (c b) = some (a == b)) : eqLeaves ((List.range n).map fun i => (i, k)) (arrF n (fun x => [c x]) f) (arrF n (fun x => [c x]) g) = some (eqF n f g) :=
  leaves_arr hk (List.range n) (fun i hi => by
    have hi := List.mem_range.1 hi
    have e1 := arrF_get (c := fun x => [c x]) (f := f) one_len hi (j := 0) (by omega)
    have e2 := arrF_get (c := fun x => [c x]) (f := g) one_len hi (j := 0) (by omega)
    rw [Nat.mul_one, Nat.add_zero] at e1 e2
    exact ⟨e1, e2⟩)
section
variable {o : Oper} {t t' : TypeId} {xo yo : Operand} {n : Nat} {l : List (Nat × EQ)} {β : Type} [BEq β] {c : β → AV} {f g : Int → β}
theorem pEqArE (k : EQ) (hk : ∀ a b, eqLeaf k (c a) (c b) = some (a == b)) (ht : eqPlan P t = some (n, l)) (hl : l = (List.range n).map (fun i => (i, k))) (hop : o.op = .binOp .eql t xo yo t' := by rfl) (hx : ev env xo = some (.agg (arrF n (fun x => [c x]) f)) := by rfl) (hy : ev env yo = some (.agg (arrF n (fun x => [c x]) g)) := by rfl) : APure P N o env (.bool (eqF n f g)) :=
  pEqG hop (.inl rfl) hx hy ht (by rw [arrF_len one_len, Nat.mul_one]) (by rw [arrF_len one_len, Nat.mul_one]) (by rw [hl]; exact leaves_arrF hk) (if_pos rfl)
theorem pEqArN (k : EQ) (hk : ∀ a b, eqLeaf k (c a) (c b) = some (a == b)) (ht : eqPlan P t = some (n, l)) (hl : l = (List.range n).map (fun i => (i, k))) (hop : o.op = .binOp .neq t xo yo t' := by rfl) (hx : ev env xo = some (.agg (arrF n (fun x => [c x]) f)) := by rfl) (hy : ev env yo = some (.agg (arrF n (fun x => [c x]) g)) := by rfl) : APure P N o env (.bool (!eqF n f g)) :=
  pEqG hop (.inr rfl) hx hy ht (by rw [arrF_len one_len, Nat.mul_one]) (by rw [arrF_len one_len, Nat.mul_one]) (by rw [hl]; exact leaves_arrF hk) (if_neg (by decide))
end
section
variable {o : Oper} {t t' : TypeId} {xo yo : Operand} {cs ds : List AV} {q : Bool}
theorem pEqAe {l : List (Nat × EK)} (ht : eqType P t = some l) (hop : o.op = .binOp .eql t xo yo t' := by rfl) (hx : ev env xo = some (.agg cs) := by rfl) (hy : ev env yo = some (.agg ds) := by rfl) (hq : eqCells l cs ds = some q := by rfl) : APure P N o env (.bool q) := pEqA hop (.inl rfl) hx hy ht hq (if_pos rfl)
theorem pEqAn {l : List (Nat × EK)} (ht : eqType P t = some l) (hop : o.op = .binOp .neq t xo yo t' := by rfl) (hx : ev env xo = some (.agg cs) := by rfl) (hy : ev env yo = some (.agg ds) := by rfl) (hq : eqCells l cs ds = some q := by rfl) : APure P N o env (.bool (!q)) := pEqA hop (.inr rfl) hx hy ht hq (if_neg (by decide))
theorem pEqGe {l : List (Nat × EQ)} {n : Nat} (ht : eqPlan P t = some (n, l)) (hop : o.op = .binOp .eql t xo yo t' := by rfl) (hx : ev env xo = some (.agg cs) := by rfl) (hy : ev env yo = some (.agg ds) := by rfl) (hl : cs.length = n := by rfl) (hl' : ds.length = n := by rfl) (hq : eqLeaves l cs ds = some q := by rfl) : APure P N o env (.bool q) := pEqG hop (.inl rfl) hx hy ht hl hl' hq (if_pos rfl)
theorem pEqGn {l : List (Nat × EQ)} {n : Nat} (ht : eqPlan P t = some (n, l)) (hop : o.op = .binOp .neq t xo yo t' := by rfl) (hx : ev env xo = some (.agg cs) := by rfl) (hy : ev env yo = some (.agg ds) := by rfl) (hl : cs.length = n := by rfl) (hl' : ds.length = n := by rfl) (hq : eqLeaves l cs ds = some q := by rfl) : APure P N o env (.bool (!q)) := pEqG hop (.inr rfl) hx hy ht hl hl' hq (if_neg (by decide))
theorem pEqBe {a b : Bool} (ht : isBoolT P t = true) (hop : o.op = .binOp .eql t xo yo t' := by rfl) (hx : ev env xo = some (.v (.bool a)) := by rfl) (hy : ev env yo = some (.v (.bool b)) := by rfl) : APure P N o env (.bool (a == b)) := pEqB hop (.inl rfl) hx hy ht (if_pos rfl)
theorem pEqBn {a b : Bool} (ht : isBoolT P t = true) (hop : o.op = .binOp .neq t xo yo t' := by rfl) (hx : ev env xo = some (.v (.bool a)) := by rfl) (hy : ev env yo = some (.v (.bool b)) := by rfl) : APure P N o env (.bool (!(a == b))) := pEqB hop (.inr rfl) hx hy ht (if_neg (by decide))
end
theorem setCells_all {cs ns : List AV} (h : cs.length = ns.length) : setCells cs 0 ns = ns := by
  apply List.ext_getElem?
  intro j
  rw [setCells_get _ _ _ _ (by omega)]
  by_cases hj : j < ns.length
  · rw [if_pos ⟨Nat.zero_le _, by omega⟩, Nat.sub_zero]
  · rw [if_neg (by omega), List.getElem?_eq_none (by omega), List.getElem?_eq_none (by omega)]
theorem oStW {o : Oper} {t : TypeId} {x y : Operand} {n b : Nat} {g : Bool} {cs : List AV} {av : AV} {h' : List HA} (ho : o.op = .store t x y) (hd : o.dst = none) (hx : ev env x = some (.v (.pointer (some ⟨b, 0, none⟩)))) (hy : ev env y = some av)
    (hs : Spl h (.box b cs) h') (ht : tyOf P t = some (n, g)) (k : K env (.box b (avCells av) :: h')) (hc : cs.length = n := by rfl) (hn : (avCells av).length = n := by first | rfl | exact arrF_len one_len) (h1 : oneOf av = true := by rfl) : AOp P N o env h K :=
  oStB ho hd hx hy hs ht hn (by omega) h1 (by rw [setCells_all (by omega)]; exact k)
theorem rBWa {o : Oper} {t : TypeId} {y : Operand} {n m b : Nat} {β : Type} {c : β → AV} {f : Int → β} {h' : List HA} (ht : tyOf P t = some (m, true)) (ho : o.op = .load t y := by rfl) (hx : ev env y = some (.v (.pointer (some ⟨b, 0, none⟩))) := by rfl) (hs : Spl h (.box b (arrF n (fun x => [c x]) f)) h' := by repeat constructor) (hn : n = m := by rfl) : ARead P N o env h (.agg (arrF n (fun x => [c x]) f)) :=
  rBW ht ho hx hs (by rw [arrF_len one_len, Nat.mul_one, hn])

theorem pBl {o : Oper} {a b : Bool} (h : APure P N o env (.bool a)) (e : a = b) : APure P N o env (.bool b) := e ▸ h
theorem rBl {o : Oper} {a b : Bool} (q : ARead P N o env h (.bool a)) (e : a = b) : ARead P N o env h (.bool b) := e ▸ q

/-! ### Elements of a slice of one's own -/
section
variable {o : Oper} {t : TypeId} {y : Operand} {n b c e sz j : Nat} {α : Type} {fC : α → List AV} {l : List α} {a : α} {i : Int} {av : AV} {h' : List HA}
theorem rOA (ht : tyOf P t = some (sz, true)) (he : l[i.toNat]? = some a) (ho : o.op = .load t y := by rfl) (hx : ev env y = some (.v (.pointer (some ⟨b, 0 + i.toNat * sz, none⟩))) := by rfl) (hs : Spl h (.sl (some b) c e sz (l.map fC)) h' := by repeat constructor) : ARead P N o env h (.agg (fC a)) :=
  rLdOA ho hx hs ht (Nat.zero_add _) (map_get he)
theorem rO1 (ht : tyOf P t = some (n, false)) (he : l[i.toNat]? = some a) (ho : o.op = .load t y := by rfl) (hx : ev env y = some (.v (.pointer (some ⟨b, 0 + i.toNat * sz, none⟩))) := by rfl) (hs : Spl h (.sl (some b) c e sz (l.map fC)) h' := by repeat constructor) (hj : (fC a)[0]? = some av := by rfl) : ARead P N o env h av :=
  rLdO1 (j := 0) ho hx hs ht (by omega) (map_get he) hj
theorem rOF (ht : tyOf P t = some (n, false)) (he : l[i.toNat]? = some a) (ho : o.op = .load t y := by rfl) (hx : ev env y = some (.v (.pointer (some ⟨b, 0 + i.toNat * sz + j, none⟩))) := by rfl) (hs : Spl h (.sl (some b) c e sz (l.map fC)) h' := by repeat constructor) (hj : (fC a)[j]? = some av := by rfl) : ARead P N o env h av :=
  rLdO1 ho hx hs ht (by omega) (map_get he) hj
end

end A
end Go.Proofs.Ytmcannmjielalaa
