/- Texts that ConfigTextsCard's proof rests on, part 4. -/
import Derived.Laws.Cells
import Derived.Laws.CopyRow
import Derived.Test.YtgdfppjapnpcgaaDoorS2ConfigTextsCard
set_option linter.unusedVariables false
set_option linter.unusedSimpArgs false
namespace Go.Proofs.YtgdfppjapnpcgaaDoor
namespace A
variable {P : Program} {N : Nat} {env : Env} {h : List HA} {K : Cont} {X : List (Nat × Cont)} {Rt : Cont}
/-! ### What a type is: how many cells, and whether its values are structs or arrays -/
def tyOf (P : Program) (t : TypeId) : Option (Nat × Bool) :=
 match P.underlying t, P.info? t with
 | some (.struct _), some i => some (i.size, true)
 | some (.array ..), some i => some (i.size, true)
 | some _, some i => some (i.size, false)
 | _, _ => none
theorem run_sizeOf {t : TypeId} {n : Nat} {g : Bool} (ht : tyOf P t = some (n, g)) (w : World) : (sizeOf t).run P w = .ok n w := by
 unfold tyOf at ht
 unfold sizeOf typeInfo
 cases hi : P.info? t with
 | none => rw [hi] at ht; split at ht <;> simp_all
 | some i =>
   rw [hi] at ht
   have : i.size = n := by split at ht <;> simp_all
   simp [hi, this]
theorem run_isAgg {t : TypeId} {n : Nat} {g : Bool} (ht : tyOf P t = some (n, g)) (w : World) : (isAgg t).run P w = .ok g w := by
 unfold tyOf at ht
 unfold isAgg underlying
 cases hu : P.underlying t with
 | none => rw [hu] at ht; simp at ht
 | some d =>
   rw [hu] at ht
   cases hi : P.info? t with
   | none => rw [hi] at ht; cases d <;> simp at ht
   | some i =>
     rw [hi] at ht
     cases d <;> simp_all <;> (obtain ⟨_, rfl⟩ := ht; rfl)
/-- Where a field begins, how many cells it has, whether it is a struct or an array. -/
def fieldOf (P : Program) (s : TypeId) (f : Nat) : Option (Nat × Nat × Bool) :=
 match P.underlying s with
 | some (.struct fs) => match fs[f]? with
   | some fd => match tyOf P fd.type with
     | some (n + 1, g) => some (fd.offset, n + 1, g)
     | _ => none
   | none => none
 | _ => none
theorem fieldOf_spec {s : TypeId} {f off n : Nat} {g : Bool} (hf : fieldOf P s f = some (off, n, g)) :
   ∃ (fs : Array Field) (fd : Field), P.underlying s = some (.struct fs) ∧ fs[f]? = some fd ∧ fd.offset = off ∧ tyOf P fd.type = some (n, g) ∧ n ≠ 0 := by
 unfold fieldOf at hf
 cases hu : P.underlying s with
 | none => rw [hu] at hf; simp at hf
 | some d =>
   rw [hu] at hf
   cases d with
   | struct fs =>
     simp only at hf
     cases hq : fs[f]? with
     | none => rw [hq] at hf; simp at hf
     | some fd =>
       rw [hq] at hf
       simp only at hf
       cases ht : tyOf P fd.type with
       | none => rw [ht] at hf; simp at hf
       | some x =>
         rw [ht] at hf
         obtain ⟨m, g'⟩ := x
         cases m with
         | zero => simp at hf
         | succ m =>
           simp only [Option.some.injEq, Prod.mk.injEq] at hf
           exact ⟨fs, fd, rfl, hq, hf.1, by rw [ht, hf.2.1, hf.2.2], by omega⟩
   | _ => simp at hf
/-- A slice's, an array's elements. -/
def elemSize (P : Program) (t : TypeId) : Option Nat :=
 match P.underlying t with
 | some (.slice e) => (tyOf P e).map (·.1)
 | _ => none
theorem elemSize_spec {t : TypeId} {n : Nat} (he : elemSize P t = some n) : ∃ e g, P.underlying t = some (.slice e) ∧ tyOf P e = some (n, g) := by
 unfold elemSize at he
 cases hu : P.underlying t with
 | none => rw [hu] at he; simp at he
 | some d =>
   rw [hu] at he
   cases d with
   | slice e =>
     simp only [Option.map_eq_some_iff] at he
     obtain ⟨⟨m, g⟩, h1, h2⟩ := he
     exact ⟨e, g, rfl, by rw [h1]; simp at h2; rw [h2]⟩
   | _ => simp at he
theorem run_underlying' {t : TypeId} {d : TypeDesc} (hu : P.underlying t = some d) (w : World) : (underlying t).run P w = .ok d w := by unfold underlying; simp [hu]
theorem add_none (b o n : Nat) : (⟨b, o, none⟩ : Addr).add n = ⟨b, o + n, none⟩ := by unfold Addr.add; split <;> simp_all
/-! ### Moves, fields, indexes -/
theorem pMv {o : Oper} {x : Operand} {av : AV} (ho : o.op = .move x ∨ o.op = .assign x) (hx : ev env x = some av) : APure P N o env av := by
 intro F h a w s
 refine ⟨_, s.ev hx, fun w' => ?_⟩
 rcases ho with ho | ho <;> simp [execOp, ho]
theorem run_fieldAt {s : TypeId} {f off n b o : Nat} {g : Bool} (hf : fieldOf P s f = some (off, n, g)) (w : World) : (Instr.fieldAt s (.pointer (some ⟨b, o, none⟩)) f).run P w = .ok (.pointer (some ⟨b, o + off, none⟩)) w := by
 obtain ⟨fs, fd, h1, h2, h3, h4, h5⟩ := fieldOf_spec hf
 unfold Instr.fieldAt fieldPlace
 simp [run_underlying' h1, h2, Instr.sureAddr, run_sizeOf h4, h5, add_none, h3]
theorem pFldB {o : Oper} {s : TypeId} {x : Operand} {f off n b p : Nat} {g : Bool} (ho : o.op = .fieldAddr s x f) (hx : ev env x = some (.v (.pointer (some ⟨b, p, none⟩)))) (hf : fieldOf P s f = some (off, n, g)) :
   APure P N o env (.v (.pointer (some ⟨b, p + off, none⟩))) := by
 intro F h a w st
 have hr := st.ev hx
 generalize hv : a.eval x = v at hr
 cases hr
 exact ⟨_, .v _, fun w' => by simp [execOp, ho, hv, run_fieldAt hf]⟩
theorem pFldS {o : Oper} {s : TypeId} {x : Operand} {f off n : Nat} {g : Bool} {cs : List AV} (ho : o.op = .fieldAddr s x f) (hx : ev env x = some (.sp cs)) (hf : fieldOf P s f = some (off, n, g)) :
   APure P N o env (.sp (cs.drop off)) := by
 intro F h a w st
 have hr := st.ev hx
 generalize hv : a.eval x = v at hr
 cases hr with
 | sp cs b p X hF hX h1 hR =>
   refine ⟨_, .sp (cs.drop off) b (p + off) (fun j => X (off + j)) hF (fun j hj => ?_) (fun j hj => h1 _ (by simp at hj; omega)) (fun j av hj => ?_), fun w' => by simp [execOp, ho, hv, run_fieldAt hf]⟩
   ·rw [Nat.add_assoc]; exact hX _ (by simp at hj; omega)
   ·exact hR _ av (by simpa using hj)
theorem pIdxS {o : Oper} {t : TypeId} {x i : Operand} {k : IntKind} {n : Int} {sz : Nat} {es : List (List AV)} {e : List AV} (ho : o.op = .indexAddr t x i) (hx : ev env x = some (.sl sz es)) (hi : ev env i = some (.v (.int k n))) (ht : elemSize P t = some sz)
   (h0 : 0 ≤ n) (he : es[n.toNat]? = some e) : APure P N o env (.sp e) := by
 intro F h a w st
 have hr := st.ev hx
 have hri := st.ev hi
 generalize hv : a.eval x = v at hr
 generalize hvi : a.eval i = vi at hri
 cases hri
 obtain ⟨el, g, h1, h2⟩ := elemSize_spec ht
 have hlt : n.toNat < es.length := (List.getElem?_eq_some_iff.1 he).1
 cases hr with
 | sl0 => simp at he
 | sl sz es b p c X hF hc hz hX h1' hR =>
   have hel : e.length = sz := hz e (List.mem_of_getElem? he)
   refine ⟨.pointer (some ⟨b, p + n.toNat * sz, none⟩), .sp e b _ (fun j => X n.toNat j) hF (fun j hj => ?_) (fun j hj => h1' _ _ hlt (by rw [← hel]; exact hj)) (fun j av hj => hR _ j e av he hj), fun w' => ?_⟩
   ·rw [Nat.add_assoc]; exact hX _ _ hlt (by rw [← hel]; exact hj)
   ·simp only [execOp, ho, hv, hvi, Instr.indexAt, asIntOf, Sem.run_bind, Sem.run_pure, Result.andThen_ok, run_underlying' h1]
    rw [if_pos ⟨h0, by omega⟩]
    simp [run_sizeOf h2, add_none]
/-! ### Loads -/
theorem run_loadAgg {t : TypeId} {n b o : Nat} (ht : tyOf P t = some (n, true)) {w : World} (X : Nat → Value) (hX : ∀ j, j < n → w.cell? ⟨b, o + j, none⟩ = some (X j)) :
   (Instr.loadAt t (.pointer (some ⟨b, o, none⟩))).run P w = .ok (.agg ((List.range n).map X).toArray) w := by
 unfold Instr.loadAt loadVar
 simp only [Instr.sureAddr, Sem.run_bind, Sem.run_pure, Result.andThen_ok, run_isAgg ht, if_true, run_sizeOf ht]
 rw [run_loadCells w ⟨b, o, none⟩ n X (fun j hj => by rw [add_none]; exact hX j hj)]
 rfl
theorem run_loadOne {t : TypeId} {n b o : Nat} (ht : tyOf P t = some (n, false)) {w : World} {x : Value} (hX : w.cell? ⟨b, o, none⟩ = some x) :
   (Instr.loadAt t (.pointer (some ⟨b, o, none⟩))).run P w = .ok x w := by
 unfold Instr.loadAt loadVar
 simp only [Instr.sureAddr, Sem.run_bind, Sem.run_pure, Result.andThen_ok, run_isAgg ht, Bool.false_eq_true, if_false, run_load, hX]
theorem cell_agree {F : Nat → Prop} {w w' : World} {b o : Nat} (hb : F b ∨ b ∈ owns h) (hw : Agree F h w w') : w'.cell? ⟨b, o, none⟩ = w.cell? ⟨b, o, none⟩ := by simp only [World.cell?, hw b hb]
theorem rep_aggX {F : Nat → Prop} {w : World} {cs : List AV} {n : Nat} {X : Nat → Value} (hn : n ≤ cs.length) (h1 : ∀ j, j < n → (X j).oneCell' = true) (hR : ∀ (j : Nat) (av : AV), cs[j]? = some av → Rep F w av (X j)) : Rep F w (.agg (cs.take n)) (.agg ((List.range n).map X).toArray) := by
 refine .agg _ _ (by simp; omega) (fun x hx => by
   simp only [List.mem_toArray, List.mem_map, List.mem_range] at hx
   obtain ⟨j, hj, rfl⟩ := hx
   exact h1 j hj) (fun j av x hj hx => ?_)
 have hlt : j < n := by
   have := (List.getElem?_eq_some_iff.1 hj).1
   simp at this
   omega
 rw [List.getElem?_take_of_lt hlt] at hj
 have : X j = x := by simpa [hlt] using hx
 rw [← this]
 exact hR j av hj
theorem rLdSA {o : Oper} {t : TypeId} {x : Operand} {n : Nat} {cs : List AV} (ho : o.op = .load t x) (hx : ev env x = some (.sp cs)) (ht : tyOf P t = some (n, true)) (hn : n ≤ cs.length) : ARead P N o env h (.agg (cs.take n)) := by
 intro F a w st
 have hr := st.ev hx
 generalize hv : a.eval x = v at hr
 cases hr with
 | sp cs b p X hF hX h1 hR =>
   exact ⟨_, rep_aggX hn (fun j hj => h1 j (by omega)) hR, fun w' hw => by simp [execOp, ho, hv, run_loadAgg ht X (fun j hj => by rw [cell_agree (.inl hF) hw]; exact hX j (by omega))]⟩
theorem rLdS1 {o : Oper} {t : TypeId} {x : Operand} {n : Nat} {cs : List AV} {av : AV} (ho : o.op = .load t x) (hx : ev env x = some (.sp cs)) (ht : tyOf P t = some (n, false)) (hn : cs[0]? = some av) : ARead P N o env h av := by
 intro F a w st
 have hr := st.ev hx
 generalize hv : a.eval x = v at hr
 cases hr with
 | sp cs b p X hF hX h1 hR =>
   have hlt : 0 < cs.length := (List.getElem?_eq_some_iff.1 hn).1
   refine ⟨X 0, hR 0 av hn, fun w' hw => ?_⟩
   have := hX 0 hlt
   simp [execOp, ho, hv, run_loadOne ht (by rw [cell_agree (.inl hF) hw]; simpa using this)]
theorem owns_spl {x : HA} {h' : List HA} {b : Nat} (hs : Spl h x h') (hb : b ∈ x.own) : b ∈ owns h := (owns_perm hs.perm).mem_iff.2 (by simp [hb])
theorem spl_mem {x : HA} {h' : List HA} (hs : Spl h x h') : x ∈ h := hs.perm.mem_iff.2 (by simp)
theorem own_box {b : Nat} {cs : List AV} {h' : List HA} (hs : Spl h (.box b cs) h') : b ∈ owns h := owns_spl hs (by simp [HA.own])
theorem rLdBA {o : Oper} {t : TypeId} {x : Operand} {n b p : Nat} {cs : List AV} {h' : List HA} (ho : o.op = .load t x) (hx : ev env x = some (.v (.pointer (some ⟨b, p, none⟩)))) (hs : Spl h (.box b cs) h') (ht : tyOf P t = some (n, true)) (hn : p + n ≤ cs.length) :
   ARead P N o env h (.agg ((cs.drop p).take n)) := by
 intro F a w st
 have hr := st.ev hx
 generalize hv : a.eval x = v at hr
 cases hr
 obtain ⟨arr, ty, h1, h2, h1', h3⟩ := st.r.rep _ (spl_mem hs)
 have hcell : ∀ j, j < arr.size → w.cell? ⟨b, j, none⟩ = some (arr.getD j undef) := fun j hj => by simp [World.cell?, h1, hj]
 have hmem : ∀ j, j < n → arr.getD (p + j) undef ∈ arr := fun j hj => by
   have hlt : p + j < arr.size := by omega
   have hq : arr[p + j]? = some (arr.getD (p + j) undef) := by simp [hlt]
   exact Array.mem_of_getElem? hq
 have key := rep_aggX (F := F) (w := w) (cs := cs.drop p) (n := n) (X := fun j => arr.getD (p + j) undef) (by rw [List.length_drop]; omega) (fun j hj => h1' _ (hmem j hj)) (fun j av hj => by
   have hlt : p + j < cs.length := by have := (List.getElem?_eq_some_iff.1 hj).1; rw [List.length_drop] at this; omega
   exact h3 (p + j) av _ (by simpa using hj) (by simp [h2, hlt]))
 refine ⟨_, key, fun w' hw => ?_⟩
 have hl := run_loadAgg (P := P) (b := b) (o := p) ht (w := w') (fun j => arr.getD (p + j) undef) (fun j hj => by rw [cell_agree (.inr (own_box hs)) hw]; exact hcell _ (by omega))
 simp only [execOp, ho, hv, Sem.run_bind, hl, Result.andThen_ok, Sem.run_pure]
theorem rLdB1 {o : Oper} {t : TypeId} {x : Operand} {n b p : Nat} {cs : List AV} {av : AV} {h' : List HA} (ho : o.op = .load t x) (hx : ev env x = some (.v (.pointer (some ⟨b, p, none⟩)))) (hs : Spl h (.box b cs) h') (ht : tyOf P t = some (n, false)) (hn : cs[p]? = some av) :
   ARead P N o env h av := by
 intro F a w st
 have hr := st.ev hx
 generalize hv : a.eval x = v at hr
 cases hr
 obtain ⟨arr, ty, h1, h2, h1', h3⟩ := st.r.rep _ (spl_mem hs)
 have hlt : p < cs.length := (List.getElem?_eq_some_iff.1 hn).1
 have hcell : w.cell? ⟨b, p, none⟩ = some (arr.getD p undef) := by simp [World.cell?, h1, h2, hlt]
 refine ⟨arr.getD p undef, h3 p av _ hn (by simp [h2, hlt]), fun w' hw => ?_⟩
 have hl := run_loadOne (P := P) (b := b) (o := p) ht (w := w') (by rw [cell_agree (.inr (own_box hs)) hw]; exact hcell)
 simp only [execOp, ho, hv, Sem.run_bind, hl, Result.andThen_ok, Sem.run_pure]
/-- The cells of an owned slice. -/
theorem own_cells {F : Nat → Prop} {w : World} {b c e sz : Nat} {es : List (List AV)} (hr : HARep F w (.sl (some b) c e sz es)) : ∃ xs : List Value, xs.length = es.length * sz ∧ (∀ y ∈ es, y.length = sz) ∧ (∀ x ∈ xs, x.oneCell' = true) ∧
   (∀ (k : Nat) x, xs[k]? = some x → w.cell? ⟨b, k, none⟩ = some x) ∧ ∀ (i j : Nat) y av x, es[i]? = some y → y[j]? = some av → xs[i * sz + j]? = some x → Rep F w av x := by
 obtain ⟨xs, ho, h1, h2, h3⟩ := hr
 refine ⟨xs, ho.1, h1, h2, fun k x hk => ?_, h3⟩
 have := ho.cells (g := b) rfl k x hk
 rwa [add_none, Nat.zero_add] at this
theorem idx_lt {i j n sz : Nat} (hi : i < n) (hj : j < sz) : i * sz + j < n * sz := by
 have : (i + 1) * sz ≤ n * sz := Nat.mul_le_mul_right _ (by omega)
 rw [Nat.add_mul] at this
 omega
end A
end Go.Proofs.YtgdfppjapnpcgaaDoor
namespace Go.Proofs.YtgdfppjapnpcgaaDoor
namespace A
variable {P : Program} {N : Nat} {env : Env} {h : List HA} {K : Cont} {X : List (Nat × Cont)} {Rt : Cont}
def arith (op : BinOp) (k : IntKind) (a b : Int) : Option Value :=
 match op with
 | .add => some (.int k (k.wrap (a + b)))
 | .sub => some (.int k (k.wrap (a - b)))
 | .mul => some (.int k (k.wrap (a * b)))
 | .and => some (.int k (k.wrap (BitVec.ofInt k.bits a &&& BitVec.ofInt k.bits b).toNat))
 | .or => some (.int k (k.wrap (BitVec.ofInt k.bits a ||| BitVec.ofInt k.bits b).toNat))
 | .xor => some (.int k (k.wrap (BitVec.ofInt k.bits a ^^^ BitVec.ofInt k.bits b).toNat))
 | .andNot => some (.int k (k.wrap (BitVec.ofInt k.bits a &&& ~~~ BitVec.ofInt k.bits b).toNat))
 | .eql => some (.bool (a == b))
 | .neq => some (.bool (a != b))
 | .lss => some (.bool (decide (a < b)))
 | .leq => some (.bool (decide (a ≤ b)))
 | .gtr => some (.bool (decide (a > b)))
 | .geq => some (.bool (decide (a ≥ b)))
 | _ => none
/-- Two numbers of one kind, two bools, two texts (compared). -/
def binVal (op : BinOp) (x y : Value) : Option Value :=
 match x, y with
 | .int k a, .int k' b => if k = k' then arith op k a b else none
 | .string a, .string b => match op with
   | .eql => some (.bool (a.toList == b.toList))
   | .neq => some (.bool (!(a.toList == b.toList)))
   | _ => none
 | _, _ => none
theorem run_binVal {op : BinOp} {t : TypeId} {xo yo : Operand} {x y v : Value} (hb : binVal op x y = some v) (w : World) : (do eqGuard op t xo yo x y; binOp op t x y : Sem Value).run P w = .ok v w := by
 unfold binVal at hb
 split at hb
 ·rename_i k a k' b
  split at hb
  ·rename_i hk
   subst hk
   unfold arith at hb
   cases op <;> simp at hb <;> subst hb <;> simp [eqGuard, binOp, Op.intArith, Op.intBits, Op.intCmp]
  ·simp at hb
 ·rename_i a b
  cases op <;> simp at hb <;> subst hb <;> simp [eqGuard, binOp, Op.stringOp]
 ·simp at hb
theorem pBin {o : Oper} {op : BinOp} {t t' : TypeId} {xo yo : Operand} {x y v v' : Value} (ho : o.op = .binOp op t xo yo t') (hx : ev env xo = some (.v x)) (hy : ev env yo = some (.v y)) (hb : binVal op x y = some v) (hv : v = v') : APure P N o env (.v v') := by
 subst hv
 intro F h a w s
 have hr := s.ev hx
 have hr' := s.ev hy
 generalize hvx : a.eval xo = vx at hr
 generalize hvy : a.eval yo = vy at hr'
 cases hr
 cases hr'
 refine ⟨_, .v _, fun w' => ?_⟩
 have := run_binVal (P := P) (op := op) (t := t) (xo := xo) (yo := yo) hb w'
 simp only [execOp, ho, hvx, hvy, Sem.run_bind] at this ⊢
 rw [this]
 rfl
theorem wrap_i64 {n : Int} (h1 : -9223372036854775808 ≤ n) (h2 : n < 9223372036854775808) : IntKind.i64.wrap n = n := by
 have e1 : (2 : Int) ^ 64 = 18446744073709551616 := by decide
 have e2 : (2 : Int) ^ (64 - 1) = 9223372036854775808 := by decide
 simp only [IntKind.wrap, IntKind.signed, IntKind.bits, Bool.true_and, decide_eq_true_eq, e1, e2]
 split <;> omega
theorem wrap_u64 {n : Int} (h1 : 0 ≤ n) (h2 : n < 18446744073709551616) : IntKind.u64.wrap n = n := by
 simp only [IntKind.wrap, IntKind.signed, IntKind.bits]
 simp
 omega
theorem wrap_u8 {n : Int} (h1 : 0 ≤ n) (h2 : n < 256) : IntKind.u8.wrap n = n := by
 simp only [IntKind.wrap, IntKind.signed, IntKind.bits]
 simp
 omega
theorem pAdd {o : Oper} {t t' : TypeId} {xo yo : Operand} {x y : Int} (ho : o.op = .binOp .add t xo yo t') (hx : ev env xo = some (.int x)) (hy : ev env yo = some (.int y)) (h1 : -9223372036854775808 ≤ x + y) (h2 : x + y < 9223372036854775808) : APure P N o env (.int (x + y)) :=
 pBin ho hx hy rfl (by rw [wrap_i64 h1 h2])
theorem pSub {o : Oper} {t t' : TypeId} {xo yo : Operand} {x y : Int} (ho : o.op = .binOp .sub t xo yo t') (hx : ev env xo = some (.int x)) (hy : ev env yo = some (.int y)) (h1 : -9223372036854775808 ≤ x - y) (h2 : x - y < 9223372036854775808) : APure P N o env (.int (x - y)) :=
 pBin ho hx hy rfl (by rw [wrap_i64 h1 h2])
theorem pMul {o : Oper} {t t' : TypeId} {xo yo : Operand} {x y : Int} (ho : o.op = .binOp .mul t xo yo t') (hx : ev env xo = some (.int x)) (hy : ev env yo = some (.int y)) (h1 : -9223372036854775808 ≤ x * y) (h2 : x * y < 9223372036854775808) : APure P N o env (.int (x * y)) :=
 pBin ho hx hy rfl (by rw [wrap_i64 h1 h2])
/-- '/' and '%' by a number that is not nought. -/
theorem pRem {o : Oper} {t t' : TypeId} {xo yo : Operand} {k : IntKind} {x y : Int} (ho : o.op = .binOp .rem t xo yo t') (hx : ev env xo = some (.v (.int k x))) (hy : ev env yo = some (.v (.int k y))) (h0 : y ≠ 0) : APure P N o env (.v (.int k (x.tmod y))) := by
 intro F h a w s
 have hr := s.ev hx
 have hr' := s.ev hy
 generalize hvx : a.eval xo = vx at hr
 generalize hvy : a.eval yo = vy at hr'
 cases hr
 cases hr'
 exact ⟨_, .v _, fun w' => by simp [execOp, ho, hvx, hvy, eqGuard, binOp, Op.intDiv, h0]⟩
theorem pQuo {o : Oper} {t t' : TypeId} {xo yo : Operand} {k : IntKind} {x y : Int} (ho : o.op = .binOp .quo t xo yo t') (hx : ev env xo = some (.v (.int k x))) (hy : ev env yo = some (.v (.int k y))) (h0 : y ≠ 0) : APure P N o env (.v (.int k (k.wrap (x.tdiv y)))) := by
 intro F h a w s
 have hr := s.ev hx
 have hr' := s.ev hy
 generalize hvx : a.eval xo = vx at hr
 generalize hvy : a.eval yo = vy at hr'
 cases hr
 cases hr'
 exact ⟨_, .v _, fun w' => by simp [execOp, ho, hvx, hvy, eqGuard, binOp, Op.intDiv, h0]⟩
theorem pNot {o : Oper} {t : TypeId} {xo : Operand} {b : Bool} (ho : o.op = .unOp .not t xo) (hx : ev env xo = some (.bool b)) : APure P N o env (.bool (!b)) := by
 intro F h a w s
 have hr := s.ev hx
 generalize hvx : a.eval xo = vx at hr
 cases hr
 exact ⟨_, .v _, fun w' => by simp [execOp, ho, hvx, Op.unary]⟩
theorem pNeg {o : Oper} {t : TypeId} {xo : Operand} {k : IntKind} {n : Int} (ho : o.op = .unOp .neg t xo) (hx : ev env xo = some (.v (.int k n))) : APure P N o env (.v (.int k (k.wrap (0 - n)))) := by
 intro F h a w s
 have hr := s.ev hx
 generalize hvx : a.eval xo = vx at hr
 cases hr
 exact ⟨_, .v _, fun w' => by simp [execOp, ho, hvx, Op.unary, Op.intArith]⟩
def intKindOf (P : Program) (t : TypeId) : Option IntKind :=
 match P.underlying t with
 | some (.int k) => some k
 | _ => none
theorem intKindOf_spec {t : TypeId} {k : IntKind} (ht : intKindOf P t = some k) : P.underlying t = some (.int k) := by
 unfold intKindOf at ht
 split at ht <;> simp_all
theorem pConv {o : Oper} {t t' : TypeId} {xo : Operand} {k k' k0 : IntKind} {n n' : Int} (ho : o.op = .convert t t' xo) (hx : ev env xo = some (.v (.int k n))) (ht0 : intKindOf P t = some k0) (ht : intKindOf P t' = some k') (hn : k'.wrap n = n') : APure P N o env (.v (.int k' n')) := by
 subst hn
 intro F h a w s
 have hr := s.ev hx
 generalize hvx : a.eval xo = vx at hr
 cases hr
 exact ⟨_, .v _, fun w' => by simp [execOp, ho, hvx, convert, run_underlying' (intKindOf_spec ht), run_underlying' (intKindOf_spec ht0), Conv.intToInt]⟩
/-! ### Lengths -/
def isSl (P : Program) (t : TypeId) : Bool := match P.underlying t with | some (.slice _) => true | _ => false
theorem isSl_spec {t : TypeId} (ht : isSl P t = true) : ∃ e, P.underlying t = some (.slice e) := by
 unfold isSl at ht
 split at ht
 ·rename_i e he; exact ⟨e, he⟩
 ·simp at ht
theorem pLenS {o : Oper} {t : TypeId} {xo : Operand} {sz : Nat} {es : List (List AV)} (ho : o.op = .call ⟨.builtin .len, #[xo], #[t]⟩) (hx : ev env xo = some (.sl sz es)) (ht : isSl P t = true) : APure P N o env (.int es.length) := by
 intro F h a w s
 obtain ⟨e, he⟩ := isSl_spec ht
 have hr := s.ev hx
 generalize hvx : a.eval xo = vx at hr
 cases hr <;> exact ⟨_, .v _, fun w' => by simp [execOp, ho, resolve, invoke, builtin, hvx, Builtin.len_, run_underlying' he, goInt]⟩
theorem pLenV {o : Oper} {t : TypeId} {xo : Operand} {ad : Option Addr} {n c : Nat} (ho : o.op = .call ⟨.builtin .len, #[xo], #[t]⟩) (hx : ev env xo = some (.v (.slice ad n c))) (ht : isSl P t = true) : APure P N o env (.int n) := by
 intro F h a w s
 obtain ⟨e, he⟩ := isSl_spec ht
 have hr := s.ev hx
 generalize hvx : a.eval xo = vx at hr
 cases hr
 exact ⟨_, .v _, fun w' => by simp [execOp, ho, resolve, invoke, builtin, hvx, Builtin.len_, run_underlying' he, goInt]⟩
/-! ### Parts of tuples and structs, function values -/
theorem pExt {o : Oper} {xo : Operand} {i : Nat} {vs : List AV} {av : AV} (ho : o.op = .extract xo i) (hx : ev env xo = some (.tup vs)) (hi : vs[i]? = some av) : APure P N o env av := by
 intro F h a w s
 have hr := s.ev hx
 generalize hvx : a.eval xo = vx at hr
 cases hr with
 | tup _ xs hl hR =>
   have hlt : i < xs.size := by rw [hl]; exact (List.getElem?_eq_some_iff.1 hi).1
   exact ⟨xs[i], hR i av _ hi (by simp [hlt]), fun w' => by simp [execOp, ho, hvx, Instr.extract, hlt]⟩
theorem pFn {o : Oper} {fn : Fn} {caps : Array Operand} {l : List AV} (ho : o.op = .makeFunc fn #[] caps) (hl : evs env caps.toList = some l) : APure P N o env (.fn fn l) := by
 intro F h a w s
 obtain ⟨h1, h2⟩ := reps_evs s caps.toList l hl
 refine ⟨_, .fn fn l (caps.map a.eval) (by simpa using h1) (fun j av x hj hx => h2 j av x hj (by simpa using hx)), fun w' => by simp [execOp, ho, Instr.makeFunc]⟩
/-- A value's cells. -/
def avCells : AV → List AV
 | .agg cs => cs
 | .v (.agg xs) => xs.toList.map .v
 | av => [av]
theorem rep_cells {F : Nat → Prop} {w : World} {av : AV} {x : Value} (hr : Rep F w av x) : x.cells.size = (avCells av).length ∧ ∀ (j : Nat) c y, (avCells av)[j]? = some c → x.cells[j]? = some y → Rep F w c y := by
 have one : ∀ av x, Rep F w av x → avCells av = [av] → x.cells = #[x] → x.cells.size = (avCells av).length ∧ ∀ (j : Nat) c y, (avCells av)[j]? = some c → x.cells[j]? = some y → Rep F w c y := by
   intro av x hr h1 h2
   rw [h1, h2]
   refine ⟨rfl, fun j c y hc hy => ?_⟩
   cases j with
   | zero => simp at hc hy; subst hc; subst hy; exact hr
   | succ j => simp at hc
 cases hr with
 | v x =>
   cases x with
   | agg xs =>
     refine ⟨by simp [avCells, Value.cells], fun j c y hc hy => ?_⟩
     simp only [avCells, List.getElem?_map, Option.map_eq_some_iff] at hc
     obtain ⟨z, hz, rfl⟩ := hc
     simp only [Value.cells] at hy
     have : z = y := by
       have h1 : xs.toList[j]? = some y := by simpa using hy
       rw [hz] at h1
       exact Option.some.inj h1
     subst this
     exact .v z
   | _ => exact one _ _ (.v _) rfl rfl
 | agg cs xs hl h1 hR => exact ⟨by simpa [avCells, Value.cells] using hl, fun j c y hc hy => hR j c y hc hy⟩
 | sl0 => exact one _ _ (.sl0 _ _ _) rfl rfl
 | sl sz es b p c X a b' c' d e f => exact one _ _ (.sl sz es b p c X a b' c' d e f) rfl rfl
 | sp cs b p X a b' c d => exact one _ _ (.sp cs b p X a b' c d) rfl rfl
 | tup cs xs a b => exact one _ _ (.tup cs xs a b) rfl rfl
 | fn f cs xs a b => exact one _ _ (.fn f cs xs a b) rfl rfl
end A
end Go.Proofs.YtgdfppjapnpcgaaDoor
