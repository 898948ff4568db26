/- Texts that ConfigTextsCard's proof rests on, part 11. -/
import Derived.KernelRfl
import Derived.Test.YtgdfppjapnpcgaaDoorS9ConfigTextsCard
set_option linter.unusedVariables false
set_option linter.unusedSimpArgs false
namespace Go.Proofs.YtgdfppjapnpcgaaDoor
namespace A
open Go.Proofs.YtgdfppjapnpcgaaDoorW.PrintLast (rtab waitsOk anyT takeW any_of take_ofW one_of readyT done_of)
variable {P : Program} {N : Nat} {env : Env} {h : List HA} {K : Cont} {X : List (Nat × Cont)} {Rt : Cont}
section
variable {ops : Array Oper} {o : Oper} {rest : List Oper} {d j dj : Nat} {av : AV} {want : Bool} {x : Value}
theorem sp (hr : APure P N o env av) (k : AOps P N ops rest ((d, av) :: env) h K X Rt) (hg : o.guard = none := by rfl) (hd : o.dst = some d := by rfl) (hN : d < N := by decide) : AOps P N ops (o :: rest) env h K X Rt := oP hg hr hd hN k
theorem sr (hr : ARead P N o env h av) (k : AOps P N ops rest ((d, av) :: env) h K X Rt) (hg : o.guard = none := by rfl) (hd : o.dst = some d := by rfl) (hN : d < N := by decide) : AOps P N ops (o :: rest) env h K X Rt := oR hg hr hd hN k
theorem sa (k : AOp P N o env h (fun env' h' => AOps P N ops rest env' h' K X Rt)) (hg : o.guard = none := by rfl) : AOps P N ops (o :: rest) env h K X Rt := oA hg k
theorem sq (k : AOpQ P N o env h (fun env' h' => AOps P N ops rest env' h' K X Rt)) (hg : o.guard = none := by rfl) : AOps P N ops (o :: rest) env h K X Rt := oQ hg k
theorem gp (hr : APure P N o env av) (k : AOps P N ops rest ((d, av) :: env) h K X Rt) (hg : o.guard = some (j, want) := by rfl) (hj : (ops[j]?).bind (·.dst) = some dj := by rfl) (hx : get env dj = some (.v x) := by rfl) (hw : wants x want = true := by rfl) (hd : o.dst = some d := by rfl) (hN : d < N := by decide) : AOps P N ops (o :: rest) env h K X Rt := oGP hg hj hx hw hr hd hN k
theorem gr (hr : ARead P N o env h av) (k : AOps P N ops rest ((d, av) :: env) h K X Rt) (hg : o.guard = some (j, want) := by rfl) (hj : (ops[j]?).bind (·.dst) = some dj := by rfl) (hx : get env dj = some (.v x) := by rfl) (hw : wants x want = true := by rfl) (hd : o.dst = some d := by rfl) (hN : d < N := by decide) : AOps P N ops (o :: rest) env h K X Rt := oGR hg hj hx hw hr hd hN k
theorem ga (k : AOp P N o env h (fun env' h' => AOps P N ops rest env' h' K X Rt)) (hg : o.guard = some (j, want) := by rfl) (hj : (ops[j]?).bind (·.dst) = some dj := by rfl) (hx : get env dj = some (.v x) := by rfl) (hw : wants x want = true := by rfl) : AOps P N ops (o :: rest) env h K X Rt := oGT hg hj hx hw k
theorem gf (k : AOps P N ops rest ((d, .v undef) :: env) h K X Rt) (hg : o.guard = some (j, want) := by rfl) (hj : (ops[j]?).bind (·.dst) = some dj := by rfl) (hx : get env dj = some (.v x) := by rfl) (hw : wants x want = false := by rfl) (hd : o.dst = some d := by rfl) (hN : d < N := by decide) : AOps P N ops (o :: rest) env h K X Rt := oGF hg hj hx hw hd hN k
end
section
variable {o : Oper}
theorem pM {y : Operand} {av : AV} (ho : o.op = .move y := by rfl) (hx : ev env y = some av := by rfl) : APure P N o env av := pMv (.inl ho) hx
theorem pMa {y : Operand} {av : AV} (ho : o.op = .assign y := by rfl) (hx : ev env y = some av := by rfl) : APure P N o env av := pMv (.inr ho) hx
theorem pK {c y z : Operand} {b : Bool} {av : AV} (ho : o.op = .pick c y z := by rfl) (hc : ev env c = some (.bool b) := by rfl) (hx : ev env (cond b y z) = some av := by rfl) : APure P N o env av := pPick ho hc hx
theorem pFb {s : TypeId} {y : Operand} {f off n b p : Nat} {g : Bool} (hf : fieldOf P s f = some (off, n, g)) (ho : o.op = .fieldAddr s y f := by rfl) (hx : ev env y = some (.v (.pointer (some ⟨b, p, none⟩))) := by rfl) : APure P N o env (.v (.pointer (some ⟨b, p + off, none⟩))) := pFldB ho hx hf
theorem pFs {s : TypeId} {y : Operand} {f off n : Nat} {g : Bool} {cs : List AV} (hf : fieldOf P s f = some (off, n, g)) (ho : o.op = .fieldAddr s y f := by rfl) (hx : ev env y = some (.sp cs) := by rfl) : APure P N o env (.sp (cs.drop off)) := pFldS ho hx hf
theorem pB {op : BinOp} {t t' : TypeId} {xo yo : Operand} {x y v : Value} (ho : o.op = .binOp op t xo yo t' := by rfl) (hx : ev env xo = some (.v x) := by rfl) (hy : ev env yo = some (.v y) := by rfl) (hb : binVal op x y = some v := by rfl) : APure P N o env (.v v) := pBin ho hx hy hb rfl
theorem pAd {t t' : TypeId} {xo yo : Operand} {x y : Int} (ho : o.op = .binOp .add t xo yo t' := by rfl) (hx : ev env xo = some (.int x) := by rfl) (hy : ev env yo = some (.int y) := by rfl) (h1 : -9223372036854775808 ≤ x + y := by omega) (h2 : x + y < 9223372036854775808 := by omega) : APure P N o env (.int (x + y)) := pAdd ho hx hy h1 h2
theorem pSu {t t' : TypeId} {xo yo : Operand} {x y : Int} (ho : o.op = .binOp .sub t xo yo t' := by rfl) (hx : ev env xo = some (.int x) := by rfl) (hy : ev env yo = some (.int y) := by rfl) (h1 : -9223372036854775808 ≤ x - y := by omega) (h2 : x - y < 9223372036854775808 := by omega) : APure P N o env (.int (x - y)) := pSub ho hx hy h1 h2
theorem pMu {t t' : TypeId} {xo yo : Operand} {x y : Int} (ho : o.op = .binOp .mul t xo yo t' := by rfl) (hx : ev env xo = some (.int x) := by rfl) (hy : ev env yo = some (.int y) := by rfl) (h1 : -9223372036854775808 ≤ x * y := by omega) (h2 : x * y < 9223372036854775808 := by omega) : APure P N o env (.int (x * y)) := pMul ho hx hy h1 h2
theorem pX {xo : Operand} {i : Nat} {vs : List AV} {av : AV} (ho : o.op = .extract xo i := by rfl) (hx : ev env xo = some (.tup vs) := by rfl) (hi : vs[i]? = some av := by rfl) : APure P N o env av := pExt ho hx hi
theorem pNo {t : TypeId} {xo : Operand} {b : Bool} (ho : o.op = .unOp .not t xo := by rfl) (hx : ev env xo = some (.bool b) := by rfl) : APure P N o env (.bool (!b)) := pNot ho hx
theorem pLv {t : TypeId} {xo : Operand} {ad : Option Addr} {n c : Nat} (ht : isSl P t = true) (ho : o.op = .call ⟨.builtin .len, #[xo], #[t]⟩ := by rfl) (hx : ev env xo = some (.v (.slice ad n c)) := by rfl) : APure P N o env (.int n) := pLenV ho hx ht
theorem pLm {t : TypeId} {xo : Operand} {sz : Nat} {α : Type} {f : α → List AV} {l : List α} (ht : isSl P t = true) (ho : o.op = .call ⟨.builtin .len, #[xo], #[t]⟩ := by rfl) (hx : ev env xo = some (.sl sz (l.map f)) := by rfl) : APure P N o env (.int l.length) := pLenS' (pLenS ho hx ht) (List.length_map _)
theorem pIx {t : TypeId} {y i : Operand} {k : IntKind} {n : Int} {sz : Nat} {α : Type} {f : α → List AV} {l : List α} {a : α} (ht : elemSize P t = some sz) (ho : o.op = .indexAddr t y i := by rfl) (hx : ev env y = some (.sl sz (l.map f)) := by rfl) (hi : ev env i = some (.v (.int k n)) := by rfl) (h0 : 0 ≤ n := by omega) (he : l[n.toNat]? = some a := by assumption) : APure P N o env (.sp (f a)) :=
 pIdxS ho hx hi ht h0 (by rw [List.getElem?_map, he]; rfl)
/-- A place of a slice that nobody writes; what lies there is known. -/
theorem pIs {t : TypeId} {y i : Operand} {k : IntKind} {n : Int} {sz : Nat} {α : Type} {f : α → List AV} {l : List α} {a : α} (ht : elemSize P t = some sz) (he : l[n.toNat]? = some a) (ho : o.op = .indexAddr t y i := by rfl) (hx : ev env y = some (.sl sz (l.map f)) := by rfl) (hi : ev env i = some (.v (.int k n)) := by rfl) (h0 : 0 ≤ n := by omega) : APure P N o env (.sp (f a)) :=
 pIdxS ho hx hi ht h0 (by rw [List.getElem?_map, he]; rfl)
end
section
variable {o : Oper} {t : TypeId} {y : Operand} {n b p : Nat} {cs : List AV} {av : AV} {h' : List HA}
theorem rS1 (ht : tyOf P t = some (n, false)) (ho : o.op = .load t y := by rfl) (hx : ev env y = some (.sp cs) := by rfl) (hn : cs[0]? = some av := by rfl) : ARead P N o env h av := rLdS1 ho hx ht hn
theorem rSW {f : List AV} (ht : tyOf P t = some (n, true)) (hn : f.length = n) (ho : o.op = .load t y := by rfl) (hx : ev env y = some (.sp f) := by rfl) : ARead P N o env h (.agg f) := by
 have := rLdSA (N := N) (h := h) ho hx ht (show n ≤ f.length by omega)
 rwa [List.take_of_length_le (by omega)] at this
theorem rB1 (ht : tyOf P t = some (n, false)) (ho : o.op = .load t y := by rfl) (hx : ev env y = some (.v (.pointer (some ⟨b, p, none⟩))) := by rfl) (hs : Spl h (.box b cs) h' := by repeat constructor) (hn : cs[p]? = some av := by rfl) : ARead P N o env h av := rLdB1 ho hx hs ht hn
theorem rBW (ht : tyOf P t = some (n, true)) (ho : o.op = .load t y := by rfl) (hx : ev env y = some (.v (.pointer (some ⟨b, 0, none⟩))) := by rfl) (hs : Spl h (.box b cs) h' := by repeat constructor) (hn : cs.length = n := by rfl) : ARead P N o env h (.agg cs) := by
 have := rLdBA (N := N) (p := 0) ho hx hs ht (show 0 + n ≤ cs.length by omega)
 rwa [List.drop_zero, List.take_of_length_le (by omega)] at this
end
section
variable {ops : Array Oper} {T : Bool × List (List Nat × List Nat)} {Bs ds : List Nat} {n d j dj : Nat} {o : Oper} {l : Array Bool} {av : AV} {want : Bool} {x : Value} {E0 : Env} {h0 : List HA}
abbrev upd (l : Array Bool) (i : Nat) : Array Bool := l.setIfInBounds i true
theorem dp (HT : Tab ops T Bs) (i : Nat) (hi : ops[i]? = some o) (hr : APure P N o env av) (k : ADraw P N ops ds n (upd l i) ((d, av) :: env) h K X Rt) (hg : o.guard = none := by rfl) (hd : o.dst = some d := by rfl) (hc : anyT T l.toList (upd l i).toList i = true := by kernel_rfl) (hN : d < N := by decide) : ADraw P N ops ds (n + 1) l env h K X Rt := dPure _ hi hg hd (HT.any hc) hr hN k
theorem dr (HT : Tab ops T Bs) (i : Nat) (hi : ops[i]? = some o) (hr : ARead P N o env h av) (k : ADraw P N ops ds n (upd l i) ((d, av) :: env) h K X Rt) (hg : o.guard = none := by rfl) (hd : o.dst = some d := by rfl) (hc : takeW T Bs ds l.toList (upd l i).toList i = true := by kernel_rfl) (hN : d < N := by decide) : ADraw P N ops ds (n + 1) l env h K X Rt := dTake _ hi hg hd (HT.take hc) hr hN k
theorem dpG (HT : Tab ops T Bs) (i : Nat) (hi : ops[i]? = some o) (hr : APure P N o env av) (k : ADraw P N ops ds n (upd l i) ((d, av) :: env) h K X Rt) (hg : o.guard = some (j, want) := by rfl) (hj : (ops[j]?).bind (·.dst) = some dj := by rfl) (hx : get env dj = some (.v x) := by rfl) (hw : wants x want = true := by rfl) (hd : o.dst = some d := by rfl) (hc : anyT T l.toList (upd l i).toList i = true := by kernel_rfl) (hN : d < N := by decide) : ADraw P N ops ds (n + 1) l env h K X Rt := dPureG _ hi hg hj hx hw hd (HT.any hc) hr hN k
theorem drG (HT : Tab ops T Bs) (i : Nat) (hi : ops[i]? = some o) (hr : ARead P N o env h av) (k : ADraw P N ops ds n (upd l i) ((d, av) :: env) h K X Rt) (hg : o.guard = some (j, want) := by rfl) (hj : (ops[j]?).bind (·.dst) = some dj := by rfl) (hx : get env dj = some (.v x) := by rfl) (hw : wants x want = true := by rfl) (hd : o.dst = some d := by rfl) (hc : takeW T Bs ds l.toList (upd l i).toList i = true := by kernel_rfl) (hN : d < N := by decide) : ADraw P N ops ds (n + 1) l env h K X Rt := dTakeG _ hi hg hj hx hw hd (HT.take hc) hr hN k
theorem dS (HT : Tab ops T Bs) (i : Nat) (hi : ops[i]? = some o) (k : ADraw P N ops ds n (upd l i) ((d, .v undef) :: env) h K X Rt) (hg : o.guard = some (j, want) := by rfl) (hj : (ops[j]?).bind (·.dst) = some dj := by rfl) (hx : get env dj = some (.v x) := by rfl) (hw : wants x want = false := by rfl) (hd : o.dst = some d := by rfl) (hc : anyT T l.toList (upd l i).toList i = true := by kernel_rfl) (hN : d < N := by decide) : ADraw P N ops ds (n + 1) l env h K X Rt := dSkip _ hi hg hj hx hw hd (HT.any hc) hN k
theorem dE (HT : Tab ops T Bs) (k : K env h) (hr : (readyT T.2 l.toList == []) = true := by kernel_rfl) : ADraw P N ops ds n l env h K X Rt := dEnd (HT.done hr) k
-- behind the first call: what hangs on nothing new
theorem ep (HT : Tab ops T Bs) (i : Nat) (hi : ops[i]? = some o) (hr : APure P N o E0 av) (k : ADraw2 P N ops ds n (upd l i) ((d, av) :: E0) h0 ((d, av) :: env) h K X Rt) (hg : o.guard = none := by rfl) (hd : o.dst = some d := by rfl) (hc : anyT T l.toList (upd l i).toList i = true := by kernel_rfl) (hN : d < N := by decide) : ADraw2 P N ops ds (n + 1) l E0 h0 env h K X Rt := ePureB _ hi hg hd (HT.any hc) hr hN k
theorem er (HT : Tab ops T Bs) (i : Nat) (hi : ops[i]? = some o) (hr : ARead P N o E0 h0 av) (k : ADraw2 P N ops ds n (upd l i) ((d, av) :: E0) h0 ((d, av) :: env) h K X Rt) (hg : o.guard = none := by rfl) (hd : o.dst = some d := by rfl) (hc : takeW T Bs ds l.toList (upd l i).toList i = true := by kernel_rfl) (hN : d < N := by decide) : ADraw2 P N ops ds (n + 1) l E0 h0 env h K X Rt := eTake _ hi hg hd (HT.take hc) hr hN k
-- what hangs on a call's result
theorem ef (HT : Tab ops T Bs) (i : Nat) (hi : ops[i]? = some o) (hr : APure P N o env av) (k : ADraw2 P N ops ds n (upd l i) E0 h0 ((d, av) :: env) h K X Rt) (hg : o.guard = none := by rfl) (hd : o.dst = some d := by rfl) (hf : get E0 d = none := by rfl) (hc : anyT T l.toList (upd l i).toList i = true := by kernel_rfl) (hN : d < N := by decide) : ADraw2 P N ops ds (n + 1) l E0 h0 env h K X Rt := ePureF _ hi hg hd hf (HT.any hc) hr hN k
theorem efG (HT : Tab ops T Bs) (i : Nat) (hi : ops[i]? = some o) (hr : APure P N o env av) (k : ADraw2 P N ops ds n (upd l i) E0 h0 ((d, av) :: env) h K X Rt) (hg : o.guard = some (j, want) := by rfl) (hj : (ops[j]?).bind (·.dst) = some dj := by rfl) (hx : get env dj = some (.v x) := by rfl) (hw : wants x want = true := by rfl) (hd : o.dst = some d := by rfl) (hf : get E0 d = none := by rfl) (hc : anyT T l.toList (upd l i).toList i = true := by kernel_rfl) (hN : d < N := by decide) : ADraw2 P N ops ds (n + 1) l E0 h0 env h K X Rt := ePureGF _ hi hg hj hx hw hd hf (HT.any hc) hr hN k
theorem eS (HT : Tab ops T Bs) (i : Nat) (hi : ops[i]? = some o) (k : ADraw2 P N ops ds n (upd l i) E0 h0 ((d, .v undef) :: env) h K X Rt) (hg : o.guard = some (j, want) := by rfl) (hj : (ops[j]?).bind (·.dst) = some dj := by rfl) (hx : get env dj = some (.v x) := by rfl) (hw : wants x want = false := by rfl) (hd : o.dst = some d := by rfl) (hf : get E0 d = none := by rfl) (hc : anyT T l.toList (upd l i).toList i = true := by kernel_rfl) (hN : d < N := by decide) : ADraw2 P N ops ds (n + 1) l E0 h0 env h K X Rt := eSkipF _ hi hg hj hx hw hd hf (HT.any hc) hN k
theorem e1 (HT : Tab ops T Bs) (i : Nat) (hi : ops[i]? = some o) (k : AOpQ P N o env h (fun env' h' => ADraw2 P N ops ds n (upd l i) E0 h0 env' h' K X Rt)) (hg : o.guard = none := by rfl) (hd : o.dst = some d := by rfl) (hf : get E0 d = none := by rfl) (hc : (readyT T.2 l.toList == [i] && l.toList.set i true == (upd l i).toList) = true := by kernel_rfl) (hds : i ∉ ds := by decide) (hN : d < N := by decide) : ADraw2 P N ops ds (n + 1) l E0 h0 env h K X Rt := eOneF _ hi hg hd hf (HT.one hc) hds hN k
theorem e1G (HT : Tab ops T Bs) (i : Nat) (hi : ops[i]? = some o) (k : AOpQ P N o env h (fun env' h' => ADraw2 P N ops ds n (upd l i) E0 h0 env' h' K X Rt)) (hg : o.guard = some (j, want) := by rfl) (hj : (ops[j]?).bind (·.dst) = some dj := by rfl) (hx : get env dj = some (.v x) := by rfl) (hw : wants x want = true := by rfl) (hd : o.dst = some d := by rfl) (hf : get E0 d = none := by rfl) (hc : (readyT T.2 l.toList == [i] && l.toList.set i true == (upd l i).toList) = true := by kernel_rfl) (hds : i ∉ ds := by decide) (hN : d < N := by decide) : ADraw2 P N ops ds (n + 1) l E0 h0 env h K X Rt := eOneGF _ hi hg hj hx hw hd hf (HT.one hc) hds hN k
theorem f1 (HT : Tab ops T Bs) (i : Nat) (hi : ops[i]? = some o) (k : AOp P N o env h (fun env' h' => ADraw3 P N ops ds n (upd l i) env' h' K X Rt)) (hg : o.guard = none := by rfl) (hc : (readyT T.2 l.toList == [i] && l.toList.set i true == (upd l i).toList) = true := by kernel_rfl) (hds : i ∈ ds := by decide) : ADraw3 P N ops ds (n + 1) l env h K X Rt := fOne _ hi hg (HT.one hc) hds k
theorem fp (HT : Tab ops T Bs) (i : Nat) (hi : ops[i]? = some o) (hr : APure P N o env av) (k : ADraw3 P N ops ds n (upd l i) ((d, av) :: env) h K X Rt) (hg : o.guard = none := by rfl) (hd : o.dst = some d := by rfl) (hc : anyT T l.toList (upd l i).toList i = true := by kernel_rfl) (hN : d < N := by decide) : ADraw3 P N ops ds (n + 1) l env h K X Rt := fPure _ hi hg hd (HT.any hc) hr hN k
theorem fE (HT : Tab ops T Bs) (k : K env h) (hr : (readyT T.2 l.toList == []) = true := by kernel_rfl) : ADraw3 P N ops ds n l env h K X Rt := fEnd (HT.done hr) k
theorem eE (HT : Tab ops T Bs) (k : K env h) (hr : (readyT T.2 l.toList == []) = true := by kernel_rfl) : ADraw2 P N ops ds n l E0 h0 env h K X Rt := eLast (fEnd (HT.done hr) k)
end
section
variable {ops : Array Oper} {rest : List Oper} {ds : List Nat} {n : Nat} {l : Array Bool} {E0 : Env} {h0 : List HA} {α : Type} {f : α → List AV} {es : List α} {sz m : Nat} {k : IntKind} {v : Int}
theorem obtSN (y i : Nat) (hx : get env y = some (.sl sz (es.map f))) (hi : get env i = some (.int (m : Int))) (h1 : m < es.length) (k : ∀ a, es[m]? = some a → AOps P N ops rest env h K X Rt) : AOps P N ops rest env h K X Rt := k _ (List.getElem?_eq_getElem (by omega))
theorem obtDN (y i : Nat) (hx : get env y = some (.sl sz (es.map f))) (hi : get env i = some (.int (m : Int))) (h1 : m < es.length) (k : ∀ a, es[m]? = some a → ADraw P N ops ds n l env h K X Rt) : ADraw P N ops ds n l env h K X Rt := k _ (List.getElem?_eq_getElem (by omega))
end
/-! ### Loops, of which only what turns is said -/
theorem Tk.join {h t r : List HA} (k : Tk h t r) : Tk h (t ++ r) [] := by
 induction k with
 | nil => exact tk_refl
 | cons s _ ih => exact .cons s ih
theorem loopF {α : Type} {c : Code} {kept : Env} {rest : List HA} (I : α → Prop) (U : α → Env) (H : α → List HA) (m : α → Nat) (t0 : α) (hI : I t0) (hs : EnvSub env (U t0 ++ kept)) (ht : Tk h (H t0) rest)
   (h1 : ∀ t, I t → AWP P N c (U t ++ kept) (H t ++ rest) (fun env' h' => ∃ t', I t' ∧ m t' < m t ∧ EnvSub env' (U t' ++ kept) ∧ ∃ r, Tk h' (H t' ++ rest) r) X Rt) : AWP P N (.loop c) env h K X Rt :=
 aLoopI I (fun t => (U t ++ kept, H t ++ rest)) m t0 hI (weak_sub hs ht.join) (fun t hi => aMono (h1 t hi) (fun _ _ ⟨t', hi', hm, he, _, hh⟩ => ⟨t', hi', hm, weak_sub he hh⟩) (fun _ _ h => h))
/-- A place where ways meet. H0: what is turned of what is owned ahead. -/
theorem cutF {α : Type} {x y : Code} {kept : Env} {H0 rest : List HA} (I : α → Prop) (U : α → Env) (H : α → List HA) (hke : EnvSub env kept) (ht : Tk h H0 rest) (h1 : AWP P N x env h (fun env' h' => ∃ t, I t ∧ EnvSub env' (U t ++ kept) ∧ ∃ r, Tk h' (H t ++ rest) r) X Rt)
   (h2 : ∀ t, I t → AWP P N y (U t ++ kept) (H t ++ rest) K X Rt) : AWP P N (.seq x y) env h K X Rt :=
 aCutI I (fun t => (U t ++ kept, H t ++ rest)) (aMono h1 (fun _ _ ⟨t, hi, he, _, hh⟩ => ⟨t, hi, weak_sub he hh⟩) (fun _ _ h => h)) h2
/-- What is known of a result is settled at once. -/
theorem Triple.deep {f : FuncId} {args : List AV} {H : List HA} {Q Q' : AV → List HA → Prop} (t : Triple P f args H Q) (hq : ∀ r h', Q r h' → ∃ b hd hr, Tk h' hd hr ∧ Deep hd [[r]] [[b]] ∧ Q' b hr) : Triple P f args H Q' := by
 refine ⟨t.1, fun F w vs hr ha => (t.2 F w vs hr ha).mono fun e w' ⟨r, x, h', F', he, q, rp, rr, ex⟩ => ?_⟩
 obtain ⟨b, hd, hr', tk, dp, q'⟩ := hq r h' q
 have r1 := rr.perm tk.perm
 have hnd := r1.nd
 rw [owns_append] at hnd
 have hmem : ∀ k, k ∈ owns h' ↔ k ∈ owns hd ∨ k ∈ owns hr' := fun k => by rw [(owns_perm tk.perm).mem_iff, owns_append, List.mem_append]
 have hF : ∀ k, F' k → (F' k ∨ k ∈ owns hd) := fun k h => .inl h
 refine ⟨b, x, hr', fun k => F' k ∨ k ∈ owns hd, he, q', dp.rep (rr.sub tk) 0 0 [r] [b] r b x rfl rfl rfl rfl rp, ⟨fun y hy => ?_, (List.nodup_append.1 hnd).2.1, fun k hk => rr.lt k ((hmem k).2 (.inr hk)), fun k hk => ?_⟩, ⟨ex.os, ex.output, ex.tape, ex.size, ex.keep, fun k hk => ex.sub k ((hmem k).2 (.inr hk)), fun k hk => .inl (ex.mono k hk), fun k hk => ?_⟩⟩
 ·exact HARep.mono (w := w') (w' := w') hF (fun _ _ => rfl) (fun _ _ => rfl) (r1.rep y (List.mem_append_right _ hy))
 ·rcases hk with hk | hk
  ·have := rr.sep k hk; exact ⟨this.1, fun hm => this.2 ((hmem k).2 (.inr hm))⟩
  ·exact ⟨rr.lt k ((hmem k).2 (.inl hk)), fun hm => (List.nodup_append.1 hnd).2.2 k hk k hm rfl⟩
 ·rcases hk with hk | hk
  ·exact ex.new k hk
  ·rcases ex.sub k ((hmem k).2 (.inl hk)) with h | h
   ·exact .inr (.inl h)
   ·exact .inr (.inr h)
/-- A slice of its own. -/
def Own (e : TypeId) (sz : Nat) (es : List (List AV)) (H : List HA) : AV → List HA → Prop := fun q h' => ∃ g c, q = .v (slV g es.length c) ∧ h' = .sl g c e sz es :: H
/-- What comes back, and what is left. -/
def Is (r : AV) (H : List HA) : AV → List HA → Prop := fun q h' => q = r ∧ h' = H
theorem Triple.settle {f : FuncId} {args : List AV} {e : TypeId} {sz : Nat} {es : List (List AV)} {H H' : List HA} (t : Triple P f args H (Own e sz es H')) : Triple P f args H (Is (.sl sz es) H') :=
 t.deep fun r h' ⟨g, c, hr, hh⟩ => ⟨.sl sz es, [.sl g c e sz es], H', by subst hh; exact .cons .hd .nil, by subst hr; exact .sl List.mem_cons_self rfl Deep.refl (.row .nil), rfl, rfl⟩
section
variable {o : Oper} {d : Nat} {fo : Operand} {xs : Array Operand} {ts : Array TypeId} {f : FuncId} {caps l l' : List AV} {Q : AV → List HA → Prop} {hin hfr : List HA} {H : List HA} {v : Value} {x : AV}
/-- It comes back with x, and leaves nothing. -/
theorem ci (hop : o.op = .call ⟨.value fo, xs, ts⟩) (hfo : ev env fo = some (.fn (.func f) caps)) (hl : evs env xs.toList = some l) (t : Triple P f (l ++ caps) [] (Is x [])) (k : K ((d, x) :: env) h) (hd : o.dst = some d := by rfl) (hN : d < N := by decide) : AOpQ P N o env h K := qCall0 hop hd hN hfo hl t (fun r h' ⟨hr, hh⟩ => by subst hr; subst hh; exact k)
/-- It comes back with a plain value, and leaves nothing; what it is given may be lent. -/
theorem cv (hop : o.op = .call ⟨.value fo, xs, ts⟩) (hfo : ev env fo = some (.fn (.func f) caps)) (hl : evs env xs.toList = some l) (hlent : Lents h (l ++ caps) l') (t : Triple P f l' [] (Is (.v v) [])) (k : K ((d, .v v) :: env) h) (hd : o.dst = some d := by rfl) (hN : d < N := by decide) : AOpQ P N o env h K := qCallV hop hd hN hfo hl hlent t k
theorem ca (hop : o.op = .call ⟨.value fo, xs, ts⟩) (hfo : ev env fo = some (.fn (.func f) caps)) (hl : evs env xs.toList = some l) (t : Triple P f (l ++ caps) hin Q) (k : ∀ r h', Q r h' → K ((d, r) :: env) (h' ++ hfr)) (hd : o.dst = some d := by rfl) (hN : d < N := by decide) (ht : Tk h hin hfr := by repeat constructor) : AOp P N o env h K := aCall hop hd hN hfo hl ht t k
/-- It comes back with x, and leaves H of what it was given. -/
theorem cai (hop : o.op = .call ⟨.value fo, xs, ts⟩) (hfo : ev env fo = some (.fn (.func f) caps)) (hl : evs env xs.toList = some l) (t : Triple P f (l ++ caps) hin (Is x H)) (k : K ((d, x) :: env) (H ++ hfr)) (hd : o.dst = some d := by rfl) (hN : d < N := by decide) (ht : Tk h hin hfr := by repeat constructor) : AOp P N o env h K := aCall hop hd hN hfo hl ht t (fun r h' ⟨hr, hh⟩ => by subst hr; subst hh; exact k)
theorem coM {e : TypeId} {sz : Nat} {α : Type} {fC : α → List AV} {es : List α} (hop : o.op = .call ⟨.value fo, xs, ts⟩) (hfo : ev env fo = some (.fn (.func f) caps)) (hl : evs env xs.toList = some l) (t : Triple P f (l ++ caps) hin (Own e sz (es.map fC) H)) (k : ∀ g c, K ((d, .v (slV g es.length c)) :: env) (.sl g c e sz (es.map fC) :: H ++ hfr)) (hd : o.dst = some d := by rfl) (hN : d < N := by decide) (ht : Tk h hin hfr := by repeat constructor) : AOp P N o env h K := aCall hop hd hN hfo hl ht t (fun r h' ⟨g, c, hr, hh⟩ => by subst hr; subst hh; rw [List.length_map]; exact k g c)
variable {fn : Func} {r : List HA}
theorem finIs (hr : rets env fn.results.toList = some l) (hq : retOf l = x) (ht : Tk h H r := by repeat constructor) : Fin fn (Is x H) env h := ⟨l, H, r, hr, ht, hq, rfl⟩
theorem finOwn {e : TypeId} {sz n c : Nat} {g : Option Nat} {es es' : List (List AV)} (hr : rets env fn.results.toList = some [.v (slV g n c)]) (he : es' = es) (ht : Tk h (.sl g c e sz es' :: H) r := by repeat constructor) (hn : n = es'.length := by first | rfl | (simp; done) | (simp; omega)) : Fin fn (Own e sz es H) env h := ⟨_, _, r, hr, ht, g, c, by subst he; subst hn; rfl, by subst he; rfl⟩
theorem finRIs (hr : ResRds P env h fn.results.toList l) (hq : retOf l = x) (ht : Tk h H r := by repeat constructor) : FinR P fn (Is x H) env h := ⟨l, H, r, hr, ht, hq, rfl⟩
end
end A
end Go.Proofs.YtgdfppjapnpcgaaDoor
namespace Go.Proofs.YtgdfppjapnpcgaaDoor
namespace A
variable {P : Program} {N : Nat} {env : Env} {h : List HA} {K : Cont} {X : List (Nat × Cont)} {Rt : Cont}
def updF {β : Type} (f : Int → β) (m : Int) (v : β) : Int → β := fun i => if i = m then v else f i
@[simp] theorem updF_same {β : Type} (f : Int → β) (m : Int) (v : β) : updF f m v m = v := by simp [updF]
section
variable {β : Type} {c : β → List AV} {sz : Nat} (hc : ∀ v, (c v).length = sz)
include hc
end
section
variable {o : Oper} {t : TypeId} {y : Operand} {b n sz p : Nat} {β : Type} {g : β → AV} {c : β → List AV} {f : Int → β} {i : Int} {pre post : List AV} {h' : List HA}
end
section
variable {o : Oper} {t : TypeId} {x y : Operand} {b n sz p : Nat} {β : Type} {g : β → AV} {c : β → List AV} {f : Int → β} {i : Int} {v : β} {pre post : List AV} {h' : List HA} {gg : Bool}
end
theorem weak_av {k : Nat} {a a' : AV} (hk : get env k = some a) (e : a = a') : Weak N env h ((k, a') :: env) h := by
 subst e
 exact fun F ac w s => ⟨F, ⟨s.r, s.size, fun j av hj => by
   by_cases hkj : k = j
   ·subst hkj
    have : Nat.beq k k = true := by simp
    simp only [A.get, this, cond_true, Option.some.injEq] at hj
    subst hj
    exact s.env k _ hk
   ·simp only [A.get, beq_no hkj, cond_false] at hj
    exact s.env j av hj⟩, .refl F h w⟩
end A
end Go.Proofs.YtgdfppjapnpcgaaDoor
namespace Go.Proofs.YtgdfppjapnpcgaaDoor
namespace A
variable {P : Program} {N : Nat} {env : Env} {h : List HA} {K : Cont} {X : List (Nat × Cont)} {Rt : Cont}
theorem take_step {α : Type} {l : List α} {i : Nat} {a : α} (h : l[i]? = some a) : l.take (i + 1) = l.take i ++ [a] := by rw [List.take_add_one, h]; rfl
theorem drop_step {α : Type} {l : List α} {i : Nat} {a : α} (h : l[i]? = some a) : l.drop i = a :: l.drop (i + 1) := by
 have hl := (List.getElem?_eq_some_iff.1 h).1
 rw [List.drop_eq_getElem_cons hl]
 rw [List.getElem?_eq_getElem hl] at h
 rw [Option.some.inj h]
theorem take_all {α : Type} {l : List α} {i : Nat} (h : l.length ≤ i) : l.take i = l := List.take_of_length_le h
theorem oAppT {α : Type} {fC : α → List AV} {out : List α} (xs : List α) {o : Oper} {t t' e : TypeId} {x y : Operand} {sz by_ d n c : Nat} {g : Option Nat} {h' : List HA} (ho : o.op = .call ⟨.builtin .append, #[x, y], #[t, t']⟩) (hx : ev env x = some (.v (slV g n c))) (hs : Spl h (.sl g c e sz (out.map fC)) h')
   (hy : SrcIs env h y sz (xs.map fC)) (ht : elemOf P t = some (e, sz, by_)) (ht' : isSl P t' = true) (k : ∀ g' c', K ((d, .v (slV g' (out ++ xs).length c')) :: env) (.sl g' c' e sz ((out ++ xs).map fC) :: h'))
   (hd : o.dst = some d := by rfl) (hN : d < N := by decide) (hn : n = out.length := by first | rfl | simp) (hz : ∀ a, (fC a).length = sz := by exact (fun _ => rfl)) (hb : out.length + xs.length ≤ 100000000 := by first | omega | (simp; omega) | (simp at *; omega)) (hb2 : by_ ≤ 1000000 := by decide) : AOp P N o env h K := by
 refine oApp ho hd hN hx hs (by rw [List.length_map]; exact hn) hy ht ht' (fun z hm => ?_) (by simp; omega) ?_ (fun g' c' => ?_)
 ·obtain ⟨a, _, rfl⟩ := List.mem_map.1 hm; exact hz a
 ·rw [List.length_map, List.length_map]
  calc (out.length + xs.length) * by_ ≤ 100000000 * 1000000 := Nat.mul_le_mul hb hb2
    _ ≤ _ := by decide
 ·have e1 : (out.map fC).length + (xs.map fC).length = (out ++ xs).length := by simp
  rw [e1, ← List.map_append]
  exact k g' c'
section
variable {o : Oper} {t t' : TypeId} {xo yo : Operand} {x y n : Int} {k k' k0 : IntKind}
theorem run_arK {op : BinOp} {w v : Int} (ho : o.op = .binOp op t xo yo t') (hx : ev env xo = some (.v (.int k x))) (hy : ev env yo = some (.v (.int k y))) (hb : binVal op (.int k x) (.int k y) = some (.int k w)) (hw : w = v) : APure P N o env (.v (.int k v)) := pBin ho hx hy hb (by rw [hw])
theorem pAdK (ho : o.op = .binOp .add t xo yo t' := by rfl) (hx : ev env xo = some (.v (.int k x)) := by rfl) (hy : ev env yo = some (.v (.int k y)) := by rfl) (hb : binVal .add (.int k x) (.int k y) = some (.int k (k.wrap (x + y))) := by rfl) (hw : k.wrap (x + y) = x + y := by first | exact wrap_u64 (by omega) (by omega) | exact wrap_u32 (by omega) (by omega) | exact wrap_u8 (by omega) (by omega)) : APure P N o env (.v (.int k (x + y))) := run_arK ho hx hy hb hw
theorem pSuK (ho : o.op = .binOp .sub t xo yo t' := by rfl) (hx : ev env xo = some (.v (.int k x)) := by rfl) (hy : ev env yo = some (.v (.int k y)) := by rfl) (hb : binVal .sub (.int k x) (.int k y) = some (.int k (k.wrap (x - y))) := by rfl) (hw : k.wrap (x - y) = x - y := by first | exact wrap_u64 (by omega) (by omega) | exact wrap_u32 (by omega) (by omega) | exact wrap_u8 (by omega) (by omega)) : APure P N o env (.v (.int k (x - y))) := run_arK ho hx hy hb hw
theorem pCvK (ht0 : intKindOf P t = some k0) (ht : intKindOf P t' = some k') (ho : o.op = .convert t t' xo := by rfl) (hx : ev env xo = some (.v (.int k n)) := by rfl) (hw : k'.wrap n = n := by first | exact wrap_i64 (by omega) (by omega) | exact wrap_u64 (by omega) (by omega) | exact wrap_u32 (by omega) (by omega) | exact wrap_u8 (by omega) (by omega)) : APure P N o env (.v (.int k' n)) := pConv ho hx ht0 ht hw
end
section
variable {o : Oper} {t t' : TypeId} {xo yo : Operand} {n : Nat} {l : List (Nat × EQ)} {β : Type} [BEq β] {c : β → AV} {f g : Int → β}
end
section
variable {o : Oper} {t t' : TypeId} {xo yo : Operand} {cs ds : List AV} {q : Bool}
theorem pEqAn {l : List (Nat × EK)} (ht : eqType P t = some l) (hop : o.op = .binOp .neq t xo yo t' := by rfl) (hx : ev env xo = some (.agg cs) := by rfl) (hy : ev env yo = some (.agg ds) := by rfl) (hq : eqCells l cs ds = some q := by rfl) : APure P N o env (.bool (!q)) := pEqA hop (.inr rfl) hx hy ht hq (if_neg (by decide))
theorem pEqBn {a b : Bool} (ht : isBoolT P t = true) (hop : o.op = .binOp .neq t xo yo t' := by rfl) (hx : ev env xo = some (.v (.bool a)) := by rfl) (hy : ev env yo = some (.v (.bool b)) := by rfl) : APure P N o env (.bool (!(a == b))) := pEqB hop (.inr rfl) hx hy ht (if_neg (by decide))
end
theorem setCells_all {cs ns : List AV} (h : cs.length = ns.length) : setCells cs 0 ns = ns := by
 apply List.ext_getElem?
 intro j
 rw [setCells_get _ _ _ _ (by omega)]
 by_cases hj : j < ns.length
 ·rw [if_pos ⟨Nat.zero_le _, by omega⟩, Nat.sub_zero]
 ·rw [if_neg (by omega), List.getElem?_eq_none (by omega), List.getElem?_eq_none (by omega)]
theorem oStW {o : Oper} {t : TypeId} {x y : Operand} {n b : Nat} {g : Bool} {cs : List AV} {av : AV} {h' : List HA} (ho : o.op = .store t x y) (hd : o.dst = none) (hx : ev env x = some (.v (.pointer (some ⟨b, 0, none⟩)))) (hy : ev env y = some av)
   (hs : Spl h (.box b cs) h') (ht : tyOf P t = some (n, g)) (k : K env (.box b (avCells av) :: h')) (hc : cs.length = n := by rfl) (hn : (avCells av).length = n := by first | rfl | exact arrF_len one_len) (h1 : oneOf av = true := by rfl) : AOp P N o env h K :=
 oStB ho hd hx hy hs ht hn (by omega) h1 (by rw [setCells_all (by omega)]; exact k)
theorem pBl {o : Oper} {a b : Bool} (h : APure P N o env (.bool a)) (e : a = b) : APure P N o env (.bool b) := e ▸ h
section
variable {o : Oper} {t : TypeId} {y : Operand} {n b c e sz j : Nat} {α : Type} {fC : α → List AV} {l : List α} {a : α} {i : Int} {av : AV} {h' : List HA}
end
end A
end Go.Proofs.YtgdfppjapnpcgaaDoor
namespace Go.Proofs.YtgdfppjapnpcgaaDoor
namespace A
variable {P : Program} {N : Nat} {env : Env} {h : List HA} {K : Cont} {X : List (Nat × Cont)} {Rt : Cont}
/-! ### Maps whose values are slices of one's own -/
structure SlE (α : Type) where
 g : Option Nat
 c : Nat
 l : List α
section
variable {α : Type} {e : TypeId} {sz : Nat} {f : α → List AV}
end
/-! ### Parts of a slice of one's own -/
theorem pSlO {o : Oper} {t : TypeId} {x : Operand} {lo hi : Option Operand} {g : Option Nat} {sz n c l m : Nat} (ho : o.op = .slice t x lo hi none) (hx : ev env x = some (.v (slV g n c))) (ht : elemSize P t = some sz) (hl : BoundIs env lo 0 l) (hm : BoundIs env hi n m)
   (h1 : l ≤ m) (h2 : m ≤ c) : APure P N o env (.v (.slice (if c = l then g.map fun b => ⟨b, 0, none⟩ else g.map fun b => ⟨b, l * sz, none⟩) (m - l) (c - l))) := by
 intro F h a w st
 have hr := st.ev hx
 generalize hv : a.eval x = v at hr
 cases hr
 obtain ⟨el, g', hu, hs⟩ := elemSize_spec ht
 refine ⟨_, .v _, fun w' => ?_⟩
 simp only [execOp, ho, hv, Instr.sliceAt, Instr.slice, Sem.run_bind, Sem.run_pure, Result.andThen_ok, run_underlying' hu, Option.map_none, slV]
 have := run_bounds (P := P) st hl (len := n) (cap := c) hm h1 h2 true w'
 simp only [this, Result.andThen_ok, run_sizeOf hs, Sem.run_bind, Sem.run_pure]
 cases g <;> simp [add_none]
theorem pSlHi {o : Oper} {t : TypeId} {x : Operand} {hi : Option Operand} {g : Option Nat} {sz n c m : Nat} (ho : o.op = .slice t x none hi none) (hx : ev env x = some (.v (slV g n c))) (ht : elemSize P t = some sz) (hm : BoundIs env hi n m) (h2 : m ≤ c) : APure P N o env (.v (slV g m c)) := by
 have h := pSlO (P := P) (N := N) ho hx ht (bdN rfl) hm (Nat.zero_le _) h2
 have e : (Value.slice (if c = 0 then g.map fun b => (⟨b, 0, none⟩ : Addr) else g.map fun b => ⟨b, 0 * sz, none⟩) (m - 0) (c - 0)) = slV g m c := by
   rw [Nat.zero_mul]; simp [slV]
 rw [e] at h
 exact h
theorem weak_cut {g : Option Nat} {c e sz : Nat} {es : List (List AV)} {h' : List HA} (m : Nat) (hs : Spl h (.sl g c e sz es) h') : Weak N env h env (.sl g c e sz (es.take m) :: h') := by
 intro F a w s
 have hp : (owns h).Perm ((HA.sl g c e sz es).own ++ owns h') := owns_perm hs.perm
 have e1 : (HA.sl g c e sz (es.take m)).own = (HA.sl g c e sz es).own := by cases g <;> rfl
 have sub : ∀ k ∈ owns (HA.sl g c e sz (es.take m) :: h'), k ∈ owns h := fun k hk => by
   rw [owns_cons, e1] at hk
   exact hp.mem_iff.2 hk
 have nd : (owns (HA.sl g c e sz (es.take m) :: h')).Nodup := by
   rw [owns_cons, e1]
   exact hp.nodup_iff.1 s.r.nd
 refine ⟨F, ⟨s.r.same nd sub (fun y hy => ?_), s.size, s.env⟩, .same sub⟩
 rcases List.mem_cons.1 hy with rfl | hy
 ·obtain ⟨xs, ⟨h1, h2⟩, h3, h4, h5⟩ := s.r.rep _ (spl_mem hs)
  have hle : (es.take m).length ≤ es.length := by rw [List.length_take]; omega
  have hmul : (es.take m).length * sz ≤ es.length * sz := Nat.mul_le_mul_right _ hle
  refine ⟨xs.take ((es.take m).length * sz), ⟨by rw [List.length_take, h1]; omega, ?_⟩, fun y hy => h3 y (List.mem_of_mem_take hy), fun x hx => h4 x (List.mem_of_mem_take hx), fun i j y av x hi hj hx => ?_⟩
  ·rcases h2 with ⟨hv, hn⟩ | ⟨g', cap, cur, hv, h0, hg, hnc, hcm, hcs, htake⟩
   ·left
    have h0 : (es.take m).length = 0 := by omega
    refine ⟨?_, h0⟩
    simp only [slV, Value.slice.injEq] at hv ⊢
    exact ⟨hv.1, by omega, hv.2.2⟩
   ·right
    refine ⟨g', cap, cur, ?_, h0, hg, by omega, hcm, hcs, ?_⟩
    ·simp only [slV, Value.slice.injEq] at hv ⊢
     exact ⟨hv.1, trivial, hv.2.2⟩
    ·rw [← htake, List.take_take, Nat.min_eq_left hmul]
  ·have hil := (List.getElem?_eq_some_iff.1 hi).1
   rw [List.getElem?_take] at hi
   have hi2 : es[i]? = some y := by
     split at hi
     ·exact hi
     ·cases hi
   refine h5 i j y av x hi2 hj ?_
   rw [List.getElem?_take] at hx
   split at hx
   ·exact hx
   ·cases hx
 ·exact s.r.rep y (hs.perm.mem_iff.2 (by simp [hy]))
end A
end Go.Proofs.YtgdfppjapnpcgaaDoor
