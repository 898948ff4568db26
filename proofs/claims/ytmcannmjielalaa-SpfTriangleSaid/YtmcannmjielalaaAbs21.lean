/- Shorter rules: what can be asked of the program alone is asked by the rule itself. Over any program. -/
import Derived.Test.YtmcannmjielalaaAbs20
import Derived.KernelRfl
set_option linter.unusedVariables false
set_option linter.unusedSimpArgs false
namespace Go.Proofs.Ytmcannmjielalaa
namespace A
open Go.Proofs.YtmcannmjielalaaW.PrintLast (rtab waitsOk anyT takeW any_of take_ofW one_of readyT done_of)

variable {P : Program} {N : Nat} {env : Env} {h : List HA} {K : Cont} {X : List (Nat × Cont)} {Rt : Cont}

/-! ### In text's order -/
section
variable {ops : Array Oper} {o : Oper} {rest : List Oper} {d j dj : Nat} {av : AV} {want : Bool} {x : Value}
theorem sp (hr : APure P N o env av) (k : AOps P N ops rest ((d, av) :: env) h K X Rt) (hg : o.guard = none := by rfl) (hd : o.dst = some d := by rfl) (hN : d < N := by decide) : AOps P N ops (o :: rest) env h K X Rt := oP hg hr hd hN k
theorem sr (hr : ARead P N o env h av) (k : AOps P N ops rest ((d, av) :: env) h K X Rt) (hg : o.guard = none := by rfl) (hd : o.dst = some d := by rfl) (hN : d < N := by decide) : AOps P N ops (o :: rest) env h K X Rt := oR hg hr hd hN k
theorem sa (k : AOp P N o env h (fun env' h' => AOps P N ops rest env' h' K X Rt)) (hg : o.guard = none := by rfl) : AOps P N ops (o :: rest) env h K X Rt := oA hg k
theorem sq (k : AOpQ P N o env h (fun env' h' => AOps P N ops rest env' h' K X Rt)) (hg : o.guard = none := by rfl) : AOps P N ops (o :: rest) env h K X Rt := oQ hg k
theorem gp (hr : APure P N o env av) (k : AOps P N ops rest ((d, av) :: env) h K X Rt) (hg : o.guard = some (j, want) := by rfl) (hj : (ops[j]?).bind (·.dst) = some dj := by rfl) (hx : get env dj = some (.v x) := by rfl) (hw : wants x want = true := by rfl) (hd : o.dst = some d := by rfl) (hN : d < N := by decide) : AOps P N ops (o :: rest) env h K X Rt := oGP hg hj hx hw hr hd hN k
theorem gr (hr : ARead P N o env h av) (k : AOps P N ops rest ((d, av) :: env) h K X Rt) (hg : o.guard = some (j, want) := by rfl) (hj : (ops[j]?).bind (·.dst) = some dj := by rfl) (hx : get env dj = some (.v x) := by rfl) (hw : wants x want = true := by rfl) (hd : o.dst = some d := by rfl) (hN : d < N := by decide) : AOps P N ops (o :: rest) env h K X Rt := oGR hg hj hx hw hr hd hN k
theorem ga (k : AOp P N o env h (fun env' h' => AOps P N ops rest env' h' K X Rt)) (hg : o.guard = some (j, want) := by rfl) (hj : (ops[j]?).bind (·.dst) = some dj := by rfl) (hx : get env dj = some (.v x) := by rfl) (hw : wants x want = true := by rfl) : AOps P N ops (o :: rest) env h K X Rt := oGT hg hj hx hw k
theorem gf (k : AOps P N ops rest ((d, .v undef) :: env) h K X Rt) (hg : o.guard = some (j, want) := by rfl) (hj : (ops[j]?).bind (·.dst) = some dj := by rfl) (hx : get env dj = some (.v x) := by rfl) (hw : wants x want = false := by rfl) (hd : o.dst = some d := by rfl) (hN : d < N := by decide) : AOps P N ops (o :: rest) env h K X Rt := oGF hg hj hx hw hd hN k
theorem gf0 (k : AOps P N ops rest env h K X Rt) (hg : o.guard = some (j, want) := by rfl) (hj : (ops[j]?).bind (·.dst) = some dj := by rfl) (hx : get env dj = some (.v x) := by rfl) (hw : wants x want = false := by rfl) (hd : o.dst = none := by rfl) : AOps P N ops (o :: rest) env h K X Rt := oGF0 hg hj hx hw hd k
end

/-! ### What is reckoned -/
section
variable {o : Oper}
theorem pM {y : Operand} {av : AV} (ho : o.op = .move y := by rfl) (hx : ev env y = some av := by rfl) : APure P N o env av := pMv (.inl ho) hx
theorem pMa {y : Operand} {av : AV} (ho : o.op = .assign y := by rfl) (hx : ev env y = some av := by rfl) : APure P N o env av := pMv (.inr ho) hx
theorem pK {c y z : Operand} {b : Bool} {av : AV} (ho : o.op = .pick c y z := by rfl) (hc : ev env c = some (.bool b) := by rfl) (hx : ev env (cond b y z) = some av := by rfl) : APure P N o env av := pPick ho hc hx
theorem pNv {y : Operand} {b p : Nat} {s : Option Nat} (ho : o.op = .nilCheck y := by rfl) (hx : ev env y = some (.v (.pointer (some ⟨b, p, s⟩))) := by rfl) : APure P N o env (.v (.pointer (some ⟨b, p, s⟩))) := pNilV ho hx
theorem pNs {y : Operand} {cs : List AV} (ho : o.op = .nilCheck y := by rfl) (hx : ev env y = some (.sp cs) := by rfl) : APure P N o env (.sp cs) := pNilS ho hx
theorem pFb {s : TypeId} {y : Operand} {f off n b p : Nat} {g : Bool} (hf : fieldOf P s f = some (off, n, g)) (ho : o.op = .fieldAddr s y f := by rfl) (hx : ev env y = some (.v (.pointer (some ⟨b, p, none⟩))) := by rfl) : APure P N o env (.v (.pointer (some ⟨b, p + off, none⟩))) := pFldB ho hx hf
theorem pFs {s : TypeId} {y : Operand} {f off n : Nat} {g : Bool} {cs : List AV} (hf : fieldOf P s f = some (off, n, g)) (ho : o.op = .fieldAddr s y f := by rfl) (hx : ev env y = some (.sp cs) := by rfl) : APure P N o env (.sp (cs.drop off)) := pFldS ho hx hf
theorem pB {op : BinOp} {t t' : TypeId} {xo yo : Operand} {x y v : Value} (ho : o.op = .binOp op t xo yo t' := by rfl) (hx : ev env xo = some (.v x) := by rfl) (hy : ev env yo = some (.v y) := by rfl) (hb : binVal op x y = some v := by rfl) : APure P N o env (.v v) := pBin ho hx hy hb rfl
theorem pAd {t t' : TypeId} {xo yo : Operand} {x y : Int} (ho : o.op = .binOp .add t xo yo t' := by rfl) (hx : ev env xo = some (.int x) := by rfl) (hy : ev env yo = some (.int y) := by rfl) (h1 : -9223372036854775808 ≤ x + y := by omega) (h2 : x + y < 9223372036854775808 := by omega) : APure P N o env (.int (x + y)) := pAdd ho hx hy h1 h2
theorem pSu {t t' : TypeId} {xo yo : Operand} {x y : Int} (ho : o.op = .binOp .sub t xo yo t' := by rfl) (hx : ev env xo = some (.int x) := by rfl) (hy : ev env yo = some (.int y) := by rfl) (h1 : -9223372036854775808 ≤ x - y := by omega) (h2 : x - y < 9223372036854775808 := by omega) : APure P N o env (.int (x - y)) := pSub ho hx hy h1 h2
theorem pMu {t t' : TypeId} {xo yo : Operand} {x y : Int} (ho : o.op = .binOp .mul t xo yo t' := by rfl) (hx : ev env xo = some (.int x) := by rfl) (hy : ev env yo = some (.int y) := by rfl) (h1 : -9223372036854775808 ≤ x * y := by omega) (h2 : x * y < 9223372036854775808 := by omega) : APure P N o env (.int (x * y)) := pMul ho hx hy h1 h2
theorem pX {xo : Operand} {i : Nat} {vs : List AV} {av : AV} (ho : o.op = .extract xo i := by rfl) (hx : ev env xo = some (.tup vs) := by rfl) (hi : vs[i]? = some av := by rfl) : APure P N o env av := pExt ho hx hi
theorem pNo {t : TypeId} {xo : Operand} {b : Bool} (ho : o.op = .unOp .not t xo := by rfl) (hx : ev env xo = some (.bool b) := by rfl) : APure P N o env (.bool (!b)) := pNot ho hx
theorem pLv {t : TypeId} {xo : Operand} {ad : Option Addr} {n c : Nat} (ht : isSl P t = true) (ho : o.op = .call ⟨.builtin .len, #[xo], #[t]⟩ := by rfl) (hx : ev env xo = some (.v (.slice ad n c)) := by rfl) : APure P N o env (.int n) := pLenV ho hx ht
theorem pLs {t : TypeId} {xo : Operand} {sz : Nat} {es : List (List AV)} (ht : isSl P t = true) (ho : o.op = .call ⟨.builtin .len, #[xo], #[t]⟩ := by rfl) (hx : ev env xo = some (.sl sz es) := by rfl) : APure P N o env (.int es.length) := pLenS ho hx ht
theorem pLm {t : TypeId} {xo : Operand} {sz : Nat} {α : Type} {f : α → List AV} {l : List α} (ht : isSl P t = true) (ho : o.op = .call ⟨.builtin .len, #[xo], #[t]⟩ := by rfl) (hx : ev env xo = some (.sl sz (l.map f)) := by rfl) : APure P N o env (.int l.length) := pLenS' (pLenS ho hx ht) (List.length_map _)
theorem pFA {t : TypeId} {xo : Operand} {f off n : Nat} {cs : List AV} (hf : fieldOf P t f = some (off, n, true)) (ho : o.op = .field t xo f := by rfl) (hx : ev env xo = some (.agg cs) := by rfl) : APure P N o env (.agg ((cs.drop off).take n)) := pFieldA ho hx hf
theorem pF1 {t : TypeId} {xo : Operand} {f off n : Nat} {cs : List AV} {av : AV} (hf : fieldOf P t f = some (off, n, false)) (ho : o.op = .field t xo f := by rfl) (hx : ev env xo = some (.agg cs) := by rfl) (hc : cs[off]? = some av := by rfl) : APure P N o env av := pField1 ho hx hf hc
theorem pIo {t : TypeId} {y i : Operand} {k : IntKind} {n : Int} {sz b p len c : Nat} (ht : elemSize P t = some sz) (ho : o.op = .indexAddr t y i := by rfl) (hx : ev env y = some (.v (.slice (some ⟨b, p, none⟩) len c)) := by rfl) (hi : ev env i = some (.v (.int k n)) := by rfl) (h0 : 0 ≤ n := by omega) (h1 : n < len := by first | omega | (simp only [List.length_map, List.length_set]; omega)) : APure P N o env (.v (.pointer (some ⟨b, p + n.toNat * sz, none⟩))) := pIdxO ho hx hi ht h0 h1
theorem pIa {t : TypeId} {y i : Operand} {k : IntKind} {n : Int} {sz b p len : Nat} (ht : arrOf P t = some (len, sz)) (ho : o.op = .indexAddr t y i := by rfl) (hx : ev env y = some (.v (.pointer (some ⟨b, p, none⟩))) := by rfl) (hi : ev env i = some (.v (.int k n)) := by rfl) (h0 : 0 ≤ n := by omega) (h1 : n < len := by omega) : APure P N o env (.v (.pointer (some ⟨b, p + n.toNat * sz, none⟩))) := pIdxA ho hx hi ht h0 h1
theorem pIx {t : TypeId} {y i : Operand} {k : IntKind} {n : Int} {sz : Nat} {α : Type} {f : α → List AV} {l : List α} {a : α} (ht : elemSize P t = some sz) (ho : o.op = .indexAddr t y i := by rfl) (hx : ev env y = some (.sl sz (l.map f)) := by rfl) (hi : ev env i = some (.v (.int k n)) := by rfl) (h0 : 0 ≤ n := by omega) (he : l[n.toNat]? = some a := by assumption) : APure P N o env (.sp (f a)) :=
  pIdxS ho hx hi ht h0 (by rw [List.getElem?_map, he]; rfl)
/-- A place of a slice that nobody writes; what lies there is known. -/
theorem pIs {t : TypeId} {y i : Operand} {k : IntKind} {n : Int} {sz : Nat} {α : Type} {f : α → List AV} {l : List α} {a : α} (ht : elemSize P t = some sz) (he : l[n.toNat]? = some a) (ho : o.op = .indexAddr t y i := by rfl) (hx : ev env y = some (.sl sz (l.map f)) := by rfl) (hi : ev env i = some (.v (.int k n)) := by rfl) (h0 : 0 ≤ n := by omega) : APure P N o env (.sp (f a)) :=
  pIdxS ho hx hi ht h0 (by rw [List.getElem?_map, he]; rfl)
end

/-! ### What is read -/
section
variable {o : Oper} {t : TypeId} {y : Operand} {n b p : Nat} {cs : List AV} {av : AV} {h' : List HA}
theorem rS1 (ht : tyOf P t = some (n, false)) (ho : o.op = .load t y := by rfl) (hx : ev env y = some (.sp cs) := by rfl) (hn : cs[0]? = some av := by rfl) : ARead P N o env h av := rLdS1 ho hx ht hn
theorem rSA (ht : tyOf P t = some (n, true)) (ho : o.op = .load t y := by rfl) (hx : ev env y = some (.sp cs) := by rfl) (hn : n ≤ cs.length := by exact (Nat.le_of_ble_eq_true rfl)) : ARead P N o env h (.agg (cs.take n)) := rLdSA ho hx ht hn
theorem rSW {f : List AV} (ht : tyOf P t = some (n, true)) (hn : f.length = n) (ho : o.op = .load t y := by rfl) (hx : ev env y = some (.sp f) := by rfl) : ARead P N o env h (.agg f) := by
  have := rLdSA (N := N) (h := h) ho hx ht (show n ≤ f.length by omega)
  rwa [List.take_of_length_le (by omega)] at this
theorem rB1 (ht : tyOf P t = some (n, false)) (ho : o.op = .load t y := by rfl) (hx : ev env y = some (.v (.pointer (some ⟨b, p, none⟩))) := by rfl) (hs : Spl h (.box b cs) h' := by repeat constructor) (hn : cs[p]? = some av := by rfl) : ARead P N o env h av := rLdB1 ho hx hs ht hn
theorem rBA (ht : tyOf P t = some (n, true)) (ho : o.op = .load t y := by rfl) (hx : ev env y = some (.v (.pointer (some ⟨b, p, none⟩))) := by rfl) (hs : Spl h (.box b cs) h' := by repeat constructor) (hn : p + n ≤ cs.length := by exact (Nat.le_of_ble_eq_true rfl)) : ARead P N o env h (.agg ((cs.drop p).take n)) := rLdBA ho hx hs ht hn
theorem rBW (ht : tyOf P t = some (n, true)) (ho : o.op = .load t y := by rfl) (hx : ev env y = some (.v (.pointer (some ⟨b, 0, none⟩))) := by rfl) (hs : Spl h (.box b cs) h' := by repeat constructor) (hn : cs.length = n := by rfl) : ARead P N o env h (.agg cs) := by
  have := rLdBA (N := N) (p := 0) ho hx hs ht (show 0 + n ≤ cs.length by omega)
  rwa [List.drop_zero, List.take_of_length_le (by omega)] at this
end

/-! ### Regions that draw their order -/
section
variable {ops : Array Oper} {T : Bool × List (List Nat × List Nat)} {Bs ds : List Nat} {n d j dj : Nat} {o : Oper} {l : Array Bool} {av : AV} {want : Bool} {x : Value} {E0 : Env} {h0 : List HA}
abbrev upd (l : Array Bool) (i : Nat) : Array Bool := l.setIfInBounds i true
theorem dp (HT : Tab ops T Bs) (i : Nat) (hi : ops[i]? = some o) (hr : APure P N o env av) (k : ADraw P N ops ds n (upd l i) ((d, av) :: env) h K X Rt) (hg : o.guard = none := by rfl) (hd : o.dst = some d := by rfl) (hc : anyT T l.toList (upd l i).toList i = true := by kernel_rfl) (hN : d < N := by decide) : ADraw P N ops ds (n + 1) l env h K X Rt := dPure _ hi hg hd (HT.any hc) hr hN k
theorem dr (HT : Tab ops T Bs) (i : Nat) (hi : ops[i]? = some o) (hr : ARead P N o env h av) (k : ADraw P N ops ds n (upd l i) ((d, av) :: env) h K X Rt) (hg : o.guard = none := by rfl) (hd : o.dst = some d := by rfl) (hc : takeW T Bs ds l.toList (upd l i).toList i = true := by kernel_rfl) (hN : d < N := by decide) : ADraw P N ops ds (n + 1) l env h K X Rt := dTake _ hi hg hd (HT.take hc) hr hN k
theorem dpG (HT : Tab ops T Bs) (i : Nat) (hi : ops[i]? = some o) (hr : APure P N o env av) (k : ADraw P N ops ds n (upd l i) ((d, av) :: env) h K X Rt) (hg : o.guard = some (j, want) := by rfl) (hj : (ops[j]?).bind (·.dst) = some dj := by rfl) (hx : get env dj = some (.v x) := by rfl) (hw : wants x want = true := by rfl) (hd : o.dst = some d := by rfl) (hc : anyT T l.toList (upd l i).toList i = true := by kernel_rfl) (hN : d < N := by decide) : ADraw P N ops ds (n + 1) l env h K X Rt := dPureG _ hi hg hj hx hw hd (HT.any hc) hr hN k
theorem drG (HT : Tab ops T Bs) (i : Nat) (hi : ops[i]? = some o) (hr : ARead P N o env h av) (k : ADraw P N ops ds n (upd l i) ((d, av) :: env) h K X Rt) (hg : o.guard = some (j, want) := by rfl) (hj : (ops[j]?).bind (·.dst) = some dj := by rfl) (hx : get env dj = some (.v x) := by rfl) (hw : wants x want = true := by rfl) (hd : o.dst = some d := by rfl) (hc : takeW T Bs ds l.toList (upd l i).toList i = true := by kernel_rfl) (hN : d < N := by decide) : ADraw P N ops ds (n + 1) l env h K X Rt := dTakeG _ hi hg hj hx hw hd (HT.take hc) hr hN k
theorem dS (HT : Tab ops T Bs) (i : Nat) (hi : ops[i]? = some o) (k : ADraw P N ops ds n (upd l i) ((d, .v undef) :: env) h K X Rt) (hg : o.guard = some (j, want) := by rfl) (hj : (ops[j]?).bind (·.dst) = some dj := by rfl) (hx : get env dj = some (.v x) := by rfl) (hw : wants x want = false := by rfl) (hd : o.dst = some d := by rfl) (hc : anyT T l.toList (upd l i).toList i = true := by kernel_rfl) (hN : d < N := by decide) : ADraw P N ops ds (n + 1) l env h K X Rt := dSkip _ hi hg hj hx hw hd (HT.any hc) hN k
theorem dE (HT : Tab ops T Bs) (k : K env h) (hr : (readyT T.2 l.toList == []) = true := by kernel_rfl) : ADraw P N ops ds n l env h K X Rt := dEnd (HT.done hr) k
-- behind the first call: what hangs on nothing new
theorem ep (HT : Tab ops T Bs) (i : Nat) (hi : ops[i]? = some o) (hr : APure P N o E0 av) (k : ADraw2 P N ops ds n (upd l i) ((d, av) :: E0) h0 ((d, av) :: env) h K X Rt) (hg : o.guard = none := by rfl) (hd : o.dst = some d := by rfl) (hc : anyT T l.toList (upd l i).toList i = true := by kernel_rfl) (hN : d < N := by decide) : ADraw2 P N ops ds (n + 1) l E0 h0 env h K X Rt := ePureB _ hi hg hd (HT.any hc) hr hN k
theorem er (HT : Tab ops T Bs) (i : Nat) (hi : ops[i]? = some o) (hr : ARead P N o E0 h0 av) (k : ADraw2 P N ops ds n (upd l i) ((d, av) :: E0) h0 ((d, av) :: env) h K X Rt) (hg : o.guard = none := by rfl) (hd : o.dst = some d := by rfl) (hc : takeW T Bs ds l.toList (upd l i).toList i = true := by kernel_rfl) (hN : d < N := by decide) : ADraw2 P N ops ds (n + 1) l E0 h0 env h K X Rt := eTake _ hi hg hd (HT.take hc) hr hN k
theorem epG (HT : Tab ops T Bs) (i : Nat) (hi : ops[i]? = some o) (hr : APure P N o E0 av) (k : ADraw2 P N ops ds n (upd l i) ((d, av) :: E0) h0 ((d, av) :: env) h K X Rt) (hg : o.guard = some (j, want) := by rfl) (hj : (ops[j]?).bind (·.dst) = some dj := by rfl) (hx : get env dj = some (.v x) := by rfl) (hw : wants x want = true := by rfl) (hd : o.dst = some d := by rfl) (hc : anyT T l.toList (upd l i).toList i = true := by kernel_rfl) (hN : d < N := by decide) : ADraw2 P N ops ds (n + 1) l E0 h0 env h K X Rt := ePureBG _ hi hg hj hx hw hd (HT.any hc) hr hN k
theorem erG (HT : Tab ops T Bs) (i : Nat) (hi : ops[i]? = some o) (hr : ARead P N o E0 h0 av) (k : ADraw2 P N ops ds n (upd l i) ((d, av) :: E0) h0 ((d, av) :: env) h K X Rt) (hg : o.guard = some (j, want) := by rfl) (hj : (ops[j]?).bind (·.dst) = some dj := by rfl) (hx : get env dj = some (.v x) := by rfl) (hw : wants x want = true := by rfl) (hd : o.dst = some d := by rfl) (hc : takeW T Bs ds l.toList (upd l i).toList i = true := by kernel_rfl) (hN : d < N := by decide) : ADraw2 P N ops ds (n + 1) l E0 h0 env h K X Rt := eTakeG _ hi hg hj hx hw hd (HT.take hc) hr hN k
-- what hangs on a call's result
theorem ef (HT : Tab ops T Bs) (i : Nat) (hi : ops[i]? = some o) (hr : APure P N o env av) (k : ADraw2 P N ops ds n (upd l i) E0 h0 ((d, av) :: env) h K X Rt) (hg : o.guard = none := by rfl) (hd : o.dst = some d := by rfl) (hf : get E0 d = none := by rfl) (hc : anyT T l.toList (upd l i).toList i = true := by kernel_rfl) (hN : d < N := by decide) : ADraw2 P N ops ds (n + 1) l E0 h0 env h K X Rt := ePureF _ hi hg hd hf (HT.any hc) hr hN k
theorem efG (HT : Tab ops T Bs) (i : Nat) (hi : ops[i]? = some o) (hr : APure P N o env av) (k : ADraw2 P N ops ds n (upd l i) E0 h0 ((d, av) :: env) h K X Rt) (hg : o.guard = some (j, want) := by rfl) (hj : (ops[j]?).bind (·.dst) = some dj := by rfl) (hx : get env dj = some (.v x) := by rfl) (hw : wants x want = true := by rfl) (hd : o.dst = some d := by rfl) (hf : get E0 d = none := by rfl) (hc : anyT T l.toList (upd l i).toList i = true := by kernel_rfl) (hN : d < N := by decide) : ADraw2 P N ops ds (n + 1) l E0 h0 env h K X Rt := ePureGF _ hi hg hj hx hw hd hf (HT.any hc) hr hN k
theorem eS (HT : Tab ops T Bs) (i : Nat) (hi : ops[i]? = some o) (k : ADraw2 P N ops ds n (upd l i) E0 h0 ((d, .v undef) :: env) h K X Rt) (hg : o.guard = some (j, want) := by rfl) (hj : (ops[j]?).bind (·.dst) = some dj := by rfl) (hx : get env dj = some (.v x) := by rfl) (hw : wants x want = false := by rfl) (hd : o.dst = some d := by rfl) (hf : get E0 d = none := by rfl) (hc : anyT T l.toList (upd l i).toList i = true := by kernel_rfl) (hN : d < N := by decide) : ADraw2 P N ops ds (n + 1) l E0 h0 env h K X Rt := eSkipF _ hi hg hj hx hw hd hf (HT.any hc) hN k
theorem e1 (HT : Tab ops T Bs) (i : Nat) (hi : ops[i]? = some o) (k : AOpQ P N o env h (fun env' h' => ADraw2 P N ops ds n (upd l i) E0 h0 env' h' K X Rt)) (hg : o.guard = none := by rfl) (hd : o.dst = some d := by rfl) (hf : get E0 d = none := by rfl) (hc : (readyT T.2 l.toList == [i] && l.toList.set i true == (upd l i).toList) = true := by kernel_rfl) (hds : i ∉ ds := by decide) (hN : d < N := by decide) : ADraw2 P N ops ds (n + 1) l E0 h0 env h K X Rt := eOneF _ hi hg hd hf (HT.one hc) hds hN k
theorem e1G (HT : Tab ops T Bs) (i : Nat) (hi : ops[i]? = some o) (k : AOpQ P N o env h (fun env' h' => ADraw2 P N ops ds n (upd l i) E0 h0 env' h' K X Rt)) (hg : o.guard = some (j, want) := by rfl) (hj : (ops[j]?).bind (·.dst) = some dj := by rfl) (hx : get env dj = some (.v x) := by rfl) (hw : wants x want = true := by rfl) (hd : o.dst = some d := by rfl) (hf : get E0 d = none := by rfl) (hc : (readyT T.2 l.toList == [i] && l.toList.set i true == (upd l i).toList) = true := by kernel_rfl) (hds : i ∉ ds := by decide) (hN : d < N := by decide) : ADraw2 P N ops ds (n + 1) l E0 h0 env h K X Rt := eOneGF _ hi hg hj hx hw hd hf (HT.one hc) hds hN k
theorem f1 (HT : Tab ops T Bs) (i : Nat) (hi : ops[i]? = some o) (k : AOp P N o env h (fun env' h' => ADraw3 P N ops ds n (upd l i) env' h' K X Rt)) (hg : o.guard = none := by rfl) (hc : (readyT T.2 l.toList == [i] && l.toList.set i true == (upd l i).toList) = true := by kernel_rfl) (hds : i ∈ ds := by decide) : ADraw3 P N ops ds (n + 1) l env h K X Rt := fOne _ hi hg (HT.one hc) hds k
theorem fp (HT : Tab ops T Bs) (i : Nat) (hi : ops[i]? = some o) (hr : APure P N o env av) (k : ADraw3 P N ops ds n (upd l i) ((d, av) :: env) h K X Rt) (hg : o.guard = none := by rfl) (hd : o.dst = some d := by rfl) (hc : anyT T l.toList (upd l i).toList i = true := by kernel_rfl) (hN : d < N := by decide) : ADraw3 P N ops ds (n + 1) l env h K X Rt := fPure _ hi hg hd (HT.any hc) hr hN k
theorem fE (HT : Tab ops T Bs) (k : K env h) (hr : (readyT T.2 l.toList == []) = true := by kernel_rfl) : ADraw3 P N ops ds n l env h K X Rt := fEnd (HT.done hr) k
theorem eE (HT : Tab ops T Bs) (k : K env h) (hr : (readyT T.2 l.toList == []) = true := by kernel_rfl) : ADraw2 P N ops ds n l E0 h0 env h K X Rt := eLast (fEnd (HT.done hr) k)
end

/-! ### What lies at a place of a slice that nobody writes -/
section
variable {ops : Array Oper} {rest : List Oper} {ds : List Nat} {n : Nat} {l : Array Bool} {E0 : Env} {h0 : List HA} {α : Type} {f : α → List AV} {es : List α} {sz m : Nat} {k : IntKind} {v : Int}
theorem obtS (y i : Nat) (hx : get env y = some (.sl sz (es.map f))) (hi : get env i = some (.v (.int k v))) (h0 : 0 ≤ v) (h1 : v < es.length) (k : ∀ a, es[v.toNat]? = some a → AOps P N ops rest env h K X Rt) : AOps P N ops rest env h K X Rt := k _ (List.getElem?_eq_getElem (by omega))
theorem obtSN (y i : Nat) (hx : get env y = some (.sl sz (es.map f))) (hi : get env i = some (.int (m : Int))) (h1 : m < es.length) (k : ∀ a, es[m]? = some a → AOps P N ops rest env h K X Rt) : AOps P N ops rest env h K X Rt := k _ (List.getElem?_eq_getElem (by omega))
theorem obtD (y i : Nat) (hx : get env y = some (.sl sz (es.map f))) (hi : get env i = some (.v (.int k v))) (h0 : 0 ≤ v) (h1 : v < es.length) (k : ∀ a, es[v.toNat]? = some a → ADraw P N ops ds n l env h K X Rt) : ADraw P N ops ds n l env h K X Rt := k _ (List.getElem?_eq_getElem (by omega))
theorem obtDN (y i : Nat) (hx : get env y = some (.sl sz (es.map f))) (hi : get env i = some (.int (m : Int))) (h1 : m < es.length) (k : ∀ a, es[m]? = some a → ADraw P N ops ds n l env h K X Rt) : ADraw P N ops ds n l env h K X Rt := k _ (List.getElem?_eq_getElem (by omega))
theorem obtE (y i : Nat) (hx : get env y = some (.sl sz (es.map f))) (hi : get env i = some (.v (.int k v))) (hp : 0 ≤ v) (h1 : v < es.length) (k : ∀ a, es[v.toNat]? = some a → ADraw2 P N ops ds n l E0 h0 env h K X Rt) : ADraw2 P N ops ds n l E0 h0 env h K X Rt := k _ (List.getElem?_eq_getElem (by omega))
theorem obtEN (y i : Nat) (hx : get env y = some (.sl sz (es.map f))) (hi : get env i = some (.int (m : Int))) (h1 : m < es.length) (k : ∀ a, es[m]? = some a → ADraw2 P N ops ds n l E0 h0 env h K X Rt) : ADraw2 P N ops ds n l E0 h0 env h K X Rt := k _ (List.getElem?_eq_getElem (by omega))
theorem obtF (y i : Nat) (hx : get env y = some (.sl sz (es.map f))) (hi : get env i = some (.v (.int k v))) (h0 : 0 ≤ v) (h1 : v < es.length) (k : ∀ a, es[v.toNat]? = some a → ADraw3 P N ops ds n l env h K X Rt) : ADraw3 P N ops ds n l env h K X Rt := k _ (List.getElem?_eq_getElem (by omega))
theorem obtFN (y i : Nat) (hx : get env y = some (.sl sz (es.map f))) (hi : get env i = some (.int (m : Int))) (h1 : m < es.length) (k : ∀ a, es[m]? = some a → ADraw3 P N ops ds n l env h K X Rt) : ADraw3 P N ops ds n l env h K X Rt := k _ (List.getElem?_eq_getElem (by omega))
end

/-! ### Loops, of which only what turns is said -/
theorem Tk.join {h t r : List HA} (k : Tk h t r) : Tk h (t ++ r) [] := by
  induction k with
  | nil => exact tk_refl
  | cons s _ ih => exact .cons s ih
theorem loopF {α : Type} {c : Code} {kept : Env} {rest : List HA} (I : α → Prop) (U : α → Env) (H : α → List HA) (m : α → Nat) (t0 : α) (hI : I t0) (hs : EnvSub env (U t0 ++ kept)) (ht : Tk h (H t0) rest)
    (h1 : ∀ t, I t → AWP P N c (U t ++ kept) (H t ++ rest) (fun env' h' => ∃ t', I t' ∧ m t' < m t ∧ EnvSub env' (U t' ++ kept) ∧ ∃ r, Tk h' (H t' ++ rest) r) X Rt) : AWP P N (.loop c) env h K X Rt :=
  aLoopI I (fun t => (U t ++ kept, H t ++ rest)) m t0 hI (weak_sub hs ht.join) (fun t hi => aMono (h1 t hi) (fun _ _ ⟨t', hi', hm, he, _, hh⟩ => ⟨t', hi', hm, weak_sub he hh⟩) (fun _ _ h => h))
/-- A place where ways meet. H0: what is turned of what is owned ahead. -/
theorem cutF {α : Type} {x y : Code} {kept : Env} {H0 rest : List HA} (I : α → Prop) (U : α → Env) (H : α → List HA) (hke : EnvSub env kept) (ht : Tk h H0 rest) (h1 : AWP P N x env h (fun env' h' => ∃ t, I t ∧ EnvSub env' (U t ++ kept) ∧ ∃ r, Tk h' (H t ++ rest) r) X Rt)
    (h2 : ∀ t, I t → AWP P N y (U t ++ kept) (H t ++ rest) K X Rt) : AWP P N (.seq x y) env h K X Rt :=
  aCutI I (fun t => (U t ++ kept, H t ++ rest)) (aMono h1 (fun _ _ ⟨t, hi, he, _, hh⟩ => ⟨t, hi, weak_sub he hh⟩) (fun _ _ h => h)) h2

/-- What is known of a result is settled at once. -/
theorem Triple.deep {f : FuncId} {args : List AV} {H : List HA} {Q Q' : AV → List HA → Prop} (t : Triple P f args H Q) (hq : ∀ r h', Q r h' → ∃ b hd hr, Tk h' hd hr ∧ Deep hd [[r]] [[b]] ∧ Q' b hr) : Triple P f args H Q' := by
  refine ⟨t.1, fun F w vs hr ha => (t.2 F w vs hr ha).mono fun e w' ⟨r, x, h', F', he, q, rp, rr, ex⟩ => ?_⟩
  obtain ⟨b, hd, hr', tk, dp, q'⟩ := hq r h' q
  have r1 := rr.perm tk.perm
  have hnd := r1.nd
  rw [owns_append] at hnd
  have hmem : ∀ k, k ∈ owns h' ↔ k ∈ owns hd ∨ k ∈ owns hr' := fun k => by rw [(owns_perm tk.perm).mem_iff, owns_append, List.mem_append]
  have hF : ∀ k, F' k → (F' k ∨ k ∈ owns hd) := fun k h => .inl h
  refine ⟨b, x, hr', fun k => F' k ∨ k ∈ owns hd, he, q', dp.rep (rr.sub tk) 0 0 [r] [b] r b x rfl rfl rfl rfl rp, ⟨fun y hy => ?_, (List.nodup_append.1 hnd).2.1, fun k hk => rr.lt k ((hmem k).2 (.inr hk)), fun k hk => ?_⟩, ⟨ex.os, ex.output, ex.tape, ex.size, ex.keep, fun k hk => ex.sub k ((hmem k).2 (.inr hk)), fun k hk => .inl (ex.mono k hk), fun k hk => ?_, ex.dr⟩⟩
  · exact HARep.mono (w := w') (w' := w') hF (fun _ _ => rfl) (fun _ _ => rfl) (r1.rep y (List.mem_append_right _ hy))
  · rcases hk with hk | hk
    · have := rr.sep k hk; exact ⟨this.1, fun hm => this.2 ((hmem k).2 (.inr hm))⟩
    · exact ⟨rr.lt k ((hmem k).2 (.inl hk)), fun hm => (List.nodup_append.1 hnd).2.2 k hk k hm rfl⟩
  · rcases hk with hk | hk
    · exact ex.new k hk
    · rcases ex.sub k ((hmem k).2 (.inl hk)) with h | h
      · exact .inr (.inl h)
      · exact .inr (.inr h)
/-- A slice of its own. -/
def Own (e : TypeId) (sz : Nat) (es : List (List AV)) (H : List HA) : AV → List HA → Prop := fun q h' => ∃ g c, q = .v (slV g es.length c) ∧ h' = .sl g c e sz es :: H
/-- What comes back, and what is left. -/
def Is (r : AV) (H : List HA) : AV → List HA → Prop := fun q h' => q = r ∧ h' = H
theorem Triple.settle {f : FuncId} {args : List AV} {e : TypeId} {sz : Nat} {es : List (List AV)} {H H' : List HA} (t : Triple P f args H (Own e sz es H')) : Triple P f args H (Is (.sl sz es) H') :=
  t.deep fun r h' ⟨g, c, hr, hh⟩ => ⟨.sl sz es, [.sl g c e sz es], H', by subst hh; exact .cons .hd .nil, by subst hr; exact .sl List.mem_cons_self rfl Deep.refl (.row .nil), rfl, rfl⟩

theorem Casts.get {l m : List AV} (c : Casts l m) : ∀ (j : Nat) a b, l[j]? = some a → m[j]? = some b → Cast a b := by
  induction c with
  | nil => intro j a b h; simp at h
  | cons hc _ ih =>
    intro j a b h1 h2
    cases j with
    | zero => simp at h1 h2; subst h1; subst h2; exact hc
    | succ j => exact ih j a b (by simpa using h1) (by simpa using h2)
theorem weak_cast1 {g : Option Nat} {c e sz : Nat} {y y' : List AV} {h' : List HA} (hs : Spl h (.sl g c e sz [y]) h') (hz : y'.length = sz) (hc : Casts y y') : Weak N env h env (.sl g c e sz [y'] :: h') :=
  weak_castSl hs rfl (fun z hm => by rw [List.mem_singleton.1 hm]; exact hz) (fun i j z z' a b h1 h2 h3 h4 => by
    cases i with
    | zero => simp at h1 h2; subst h1; subst h2; exact hc.get j a b h3 h4
    | succ i => simp at h1)

/-! ### Calls and ends, shorter -/
section
variable {o : Oper} {d : Nat} {fo : Operand} {xs : Array Operand} {ts : Array TypeId} {f : FuncId} {caps l l' : List AV} {Q : AV → List HA → Prop} {hin hfr : List HA} {H : List HA} {v : Value} {x : AV}
theorem cq (hop : o.op = .call ⟨.value fo, xs, ts⟩) (hfo : ev env fo = some (.fn (.func f) caps)) (hl : evs env xs.toList = some l) (t : Triple P f (l ++ caps) [] Q) (k : ∀ r h', Q r h' → K ((d, r) :: env) (h' ++ h)) (hd : o.dst = some d := by rfl) (hN : d < N := by decide) : AOpQ P N o env h K := qCall0 hop hd hN hfo hl t k
/-- It comes back with x, and leaves nothing. -/
theorem ci (hop : o.op = .call ⟨.value fo, xs, ts⟩) (hfo : ev env fo = some (.fn (.func f) caps)) (hl : evs env xs.toList = some l) (t : Triple P f (l ++ caps) [] (Is x [])) (k : K ((d, x) :: env) h) (hd : o.dst = some d := by rfl) (hN : d < N := by decide) : AOpQ P N o env h K := qCall0 hop hd hN hfo hl t (fun r h' ⟨hr, hh⟩ => by subst hr; subst hh; exact k)
/-- It comes back with a plain value, and leaves nothing; what it is given may be lent. -/
theorem cv (hop : o.op = .call ⟨.value fo, xs, ts⟩) (hfo : ev env fo = some (.fn (.func f) caps)) (hl : evs env xs.toList = some l) (hlent : Lents h (l ++ caps) l') (t : Triple P f l' [] (Is (.v v) [])) (k : K ((d, .v v) :: env) h) (hd : o.dst = some d := by rfl) (hN : d < N := by decide) : AOpQ P N o env h K := qCallV hop hd hN hfo hl hlent t k
theorem ca (hop : o.op = .call ⟨.value fo, xs, ts⟩) (hfo : ev env fo = some (.fn (.func f) caps)) (hl : evs env xs.toList = some l) (t : Triple P f (l ++ caps) hin Q) (k : ∀ r h', Q r h' → K ((d, r) :: env) (h' ++ hfr)) (hd : o.dst = some d := by rfl) (hN : d < N := by decide) (ht : Tk h hin hfr := by repeat constructor) : AOp P N o env h K := aCall hop hd hN hfo hl ht t k
/-- It comes back with x, and leaves H of what it was given. -/
theorem cai (hop : o.op = .call ⟨.value fo, xs, ts⟩) (hfo : ev env fo = some (.fn (.func f) caps)) (hl : evs env xs.toList = some l) (t : Triple P f (l ++ caps) hin (Is x H)) (k : K ((d, x) :: env) (H ++ hfr)) (hd : o.dst = some d := by rfl) (hN : d < N := by decide) (ht : Tk h hin hfr := by repeat constructor) : AOp P N o env h K := aCall hop hd hN hfo hl ht t (fun r h' ⟨hr, hh⟩ => by subst hr; subst hh; exact k)
/-- It comes back with a slice of its own. -/
theorem co {e : TypeId} {sz : Nat} {es : List (List AV)} (hop : o.op = .call ⟨.value fo, xs, ts⟩) (hfo : ev env fo = some (.fn (.func f) caps)) (hl : evs env xs.toList = some l) (t : Triple P f (l ++ caps) hin (Own e sz es H)) (k : ∀ g c, K ((d, .v (slV g es.length c)) :: env) (.sl g c e sz es :: H ++ hfr)) (hd : o.dst = some d := by rfl) (hN : d < N := by decide) (ht : Tk h hin hfr := by repeat constructor) : AOp P N o env h K := aCall hop hd hN hfo hl ht t (fun r h' ⟨g, c, hr, hh⟩ => by subst hr; subst hh; exact k g c)
theorem coM {e : TypeId} {sz : Nat} {α : Type} {fC : α → List AV} {es : List α} (hop : o.op = .call ⟨.value fo, xs, ts⟩) (hfo : ev env fo = some (.fn (.func f) caps)) (hl : evs env xs.toList = some l) (t : Triple P f (l ++ caps) hin (Own e sz (es.map fC) H)) (k : ∀ g c, K ((d, .v (slV g es.length c)) :: env) (.sl g c e sz (es.map fC) :: H ++ hfr)) (hd : o.dst = some d := by rfl) (hN : d < N := by decide) (ht : Tk h hin hfr := by repeat constructor) : AOp P N o env h K := aCall hop hd hN hfo hl ht t (fun r h' ⟨g, c, hr, hh⟩ => by subst hr; subst hh; rw [List.length_map]; exact k g c)
variable {fn : Func} {r : List HA}
theorem finIs (hr : rets env fn.results.toList = some l) (hq : retOf l = x) (ht : Tk h H r := by repeat constructor) : Fin fn (Is x H) env h := ⟨l, H, r, hr, ht, hq, rfl⟩
theorem finOwn {e : TypeId} {sz n c : Nat} {g : Option Nat} {es es' : List (List AV)} (hr : rets env fn.results.toList = some [.v (slV g n c)]) (he : es' = es) (ht : Tk h (.sl g c e sz es' :: H) r := by repeat constructor) (hn : n = es'.length := by first | rfl | (simp; done) | (simp; omega)) : Fin fn (Own e sz es H) env h := ⟨_, _, r, hr, ht, g, c, by subst he; subst hn; rfl, by subst he; rfl⟩
theorem finRIs (hr : ResRds P env h fn.results.toList l) (hq : retOf l = x) (ht : Tk h H r := by repeat constructor) : FinR P fn (Is x H) env h := ⟨l, H, r, hr, ht, hq, rfl⟩
end

end A
end Go.Proofs.Ytmcannmjielalaa
