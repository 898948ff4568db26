/- Arithmetic, comparisons, conversions, parts, lengths, function values. Over any program. -/
import Derived.Test.YtmcannmjielalaaAbs4
set_option linter.unusedVariables false
set_option linter.unusedSimpArgs false
namespace Go.Proofs.Ytmcannmjielalaa
namespace A

variable {P : Program} {N : Nat} {env : Env} {h : List HA} {K : Cont} {X : List (Nat × Cont)} {Rt : Cont}

def arith (op : BinOp) (k : IntKind) (a b : Int) : Option Value :=
  match op with
  | .add => some (.int k (k.wrap (a + b)))
  | .sub => some (.int k (k.wrap (a - b)))
  | .mul => some (.int k (k.wrap (a * b)))
  | .and => some (.int k (k.wrap (BitVec.ofInt k.bits a &&& BitVec.ofInt k.bits b).toNat))
  | .or => some (.int k (k.wrap (BitVec.ofInt k.bits a ||| BitVec.ofInt k.bits b).toNat))
  | .xor => some (.int k (k.wrap (BitVec.ofInt k.bits a ^^^ BitVec.ofInt k.bits b).toNat))
  | .andNot => some (.int k (k.wrap (BitVec.ofInt k.bits a &&& ~~~ BitVec.ofInt k.bits b).toNat))
  | .eql => some (.bool (a == b))
  | .neq => some (.bool (a != b))
  | .lss => some (.bool (decide (a < b)))
  | .leq => some (.bool (decide (a ≤ b)))
  | .gtr => some (.bool (decide (a > b)))
  | .geq => some (.bool (decide (a ≥ b)))
  | _ => none

/-- Two numbers of one kind, two bools, two texts (compared). -/
def binVal (op : BinOp) (x y : Value) : Option Value :=
  match x, y with
  | .int k a, .int k' b => if k = k' then arith op k a b else none
  | .string a, .string b => match op with
    | .eql => some (.bool (a.toList == b.toList))
    | .neq => some (.bool (!(a.toList == b.toList)))
    | _ => none
  | _, _ => none

theorem run_binVal {op : BinOp} {t : TypeId} {xo yo : Operand} {x y v : Value} (hb : binVal op x y = some v) (w : World) : (do eqGuard op t xo yo x y; binOp op t x y : Sem Value).run P w = .ok v w := by
  unfold binVal at hb
  split at hb
  · rename_i k a k' b
    split at hb
    · rename_i hk
      subst hk
      unfold arith at hb
      cases op <;> simp at hb <;> subst hb <;> simp [eqGuard, binOp, Op.intArith, Op.intBits, Op.intCmp]
    · simp at hb
  · rename_i a b
    cases op <;> simp at hb <;> subst hb <;> simp [eqGuard, binOp, Op.stringOp]
  · simp at hb

theorem pBin {o : Oper} {op : BinOp} {t t' : TypeId} {xo yo : Operand} {x y v v' : Value} (ho : o.op = .binOp op t xo yo t') (hx : ev env xo = some (.v x)) (hy : ev env yo = some (.v y)) (hb : binVal op x y = some v) (hv : v = v') : APure P N o env (.v v') := by
  subst hv
  intro F h a w s
  have hr := s.ev hx
  have hr' := s.ev hy
  generalize hvx : a.eval xo = vx at hr
  generalize hvy : a.eval yo = vy at hr'
  cases hr
  cases hr'
  refine ⟨_, .v _, fun w' => ?_⟩
  have := run_binVal (P := P) (op := op) (t := t) (xo := xo) (yo := yo) hb w'
  simp only [execOp, ho, hvx, hvy, Sem.run_bind] at this ⊢
  rw [this]
  rfl

theorem wrap_i64 {n : Int} (h1 : -9223372036854775808 ≤ n) (h2 : n < 9223372036854775808) : IntKind.i64.wrap n = n := by
  have e1 : (2 : Int) ^ 64 = 18446744073709551616 := by decide
  have e2 : (2 : Int) ^ (64 - 1) = 9223372036854775808 := by decide
  simp only [IntKind.wrap, IntKind.signed, IntKind.bits, Bool.true_and, decide_eq_true_eq, e1, e2]
  split <;> omega
theorem wrap_u64 {n : Int} (h1 : 0 ≤ n) (h2 : n < 18446744073709551616) : IntKind.u64.wrap n = n := by
  simp only [IntKind.wrap, IntKind.signed, IntKind.bits]
  simp
  omega
theorem wrap_u32 {n : Int} (h1 : 0 ≤ n) (h2 : n < 4294967296) : IntKind.u32.wrap n = n := by
  simp only [IntKind.wrap, IntKind.signed, IntKind.bits]
  simp
  omega
theorem wrap_u8 {n : Int} (h1 : 0 ≤ n) (h2 : n < 256) : IntKind.u8.wrap n = n := by
  simp only [IntKind.wrap, IntKind.signed, IntKind.bits]
  simp
  omega

theorem pAdd {o : Oper} {t t' : TypeId} {xo yo : Operand} {x y : Int} (ho : o.op = .binOp .add t xo yo t') (hx : ev env xo = some (.int x)) (hy : ev env yo = some (.int y)) (h1 : -9223372036854775808 ≤ x + y) (h2 : x + y < 9223372036854775808) : APure P N o env (.int (x + y)) :=
  pBin ho hx hy rfl (by rw [wrap_i64 h1 h2])
theorem pSub {o : Oper} {t t' : TypeId} {xo yo : Operand} {x y : Int} (ho : o.op = .binOp .sub t xo yo t') (hx : ev env xo = some (.int x)) (hy : ev env yo = some (.int y)) (h1 : -9223372036854775808 ≤ x - y) (h2 : x - y < 9223372036854775808) : APure P N o env (.int (x - y)) :=
  pBin ho hx hy rfl (by rw [wrap_i64 h1 h2])
theorem pMul {o : Oper} {t t' : TypeId} {xo yo : Operand} {x y : Int} (ho : o.op = .binOp .mul t xo yo t') (hx : ev env xo = some (.int x)) (hy : ev env yo = some (.int y)) (h1 : -9223372036854775808 ≤ x * y) (h2 : x * y < 9223372036854775808) : APure P N o env (.int (x * y)) :=
  pBin ho hx hy rfl (by rw [wrap_i64 h1 h2])

/-- '/' and '%' by a number that is not nought. -/
theorem pRem {o : Oper} {t t' : TypeId} {xo yo : Operand} {k : IntKind} {x y : Int} (ho : o.op = .binOp .rem t xo yo t') (hx : ev env xo = some (.v (.int k x))) (hy : ev env yo = some (.v (.int k y))) (h0 : y ≠ 0) : APure P N o env (.v (.int k (x.tmod y))) := by
  intro F h a w s
  have hr := s.ev hx
  have hr' := s.ev hy
  generalize hvx : a.eval xo = vx at hr
  generalize hvy : a.eval yo = vy at hr'
  cases hr
  cases hr'
  exact ⟨_, .v _, fun w' => by simp [execOp, ho, hvx, hvy, eqGuard, binOp, Op.intDiv, h0]⟩
theorem pQuo {o : Oper} {t t' : TypeId} {xo yo : Operand} {k : IntKind} {x y : Int} (ho : o.op = .binOp .quo t xo yo t') (hx : ev env xo = some (.v (.int k x))) (hy : ev env yo = some (.v (.int k y))) (h0 : y ≠ 0) : APure P N o env (.v (.int k (k.wrap (x.tdiv y)))) := by
  intro F h a w s
  have hr := s.ev hx
  have hr' := s.ev hy
  generalize hvx : a.eval xo = vx at hr
  generalize hvy : a.eval yo = vy at hr'
  cases hr
  cases hr'
  exact ⟨_, .v _, fun w' => by simp [execOp, ho, hvx, hvy, eqGuard, binOp, Op.intDiv, h0]⟩
/-- Shifts by a number that is not below nought. -/
theorem pShl {o : Oper} {t t' : TypeId} {xo yo : Operand} {k k' : IntKind} {x y : Int} (ho : o.op = .binOp .shl t xo yo t') (hx : ev env xo = some (.v (.int k x))) (hy : ev env yo = some (.v (.int k' y))) (h0 : 0 ≤ y) : APure P N o env (.v (.int k (k.wrap (x * 2 ^ (min y.toNat k.bits))))) := by
  intro F h a w s
  have hr := s.ev hx
  have hr' := s.ev hy
  generalize hvx : a.eval xo = vx at hr
  generalize hvy : a.eval yo = vy at hr'
  cases hr
  cases hr'
  have hn : ¬ y < 0 := by omega
  exact ⟨_, .v _, fun w' => by simp [execOp, ho, hvx, hvy, eqGuard, binOp, Op.shift, hn]⟩
theorem pShr {o : Oper} {t t' : TypeId} {xo yo : Operand} {k k' : IntKind} {x y : Int} (ho : o.op = .binOp .shr t xo yo t') (hx : ev env xo = some (.v (.int k x))) (hy : ev env yo = some (.v (.int k' y))) (h0 : 0 ≤ y) : APure P N o env (.v (.int k (x.fdiv (2 ^ (min y.toNat k.bits))))) := by
  intro F h a w s
  have hr := s.ev hx
  have hr' := s.ev hy
  generalize hvx : a.eval xo = vx at hr
  generalize hvy : a.eval yo = vy at hr'
  cases hr
  cases hr'
  have hn : ¬ y < 0 := by omega
  exact ⟨_, .v _, fun w' => by simp [execOp, ho, hvx, hvy, eqGuard, binOp, Op.shift, hn]⟩

theorem pNot {o : Oper} {t : TypeId} {xo : Operand} {b : Bool} (ho : o.op = .unOp .not t xo) (hx : ev env xo = some (.bool b)) : APure P N o env (.bool (!b)) := by
  intro F h a w s
  have hr := s.ev hx
  generalize hvx : a.eval xo = vx at hr
  cases hr
  exact ⟨_, .v _, fun w' => by simp [execOp, ho, hvx, Op.unary]⟩
theorem pNeg {o : Oper} {t : TypeId} {xo : Operand} {k : IntKind} {n : Int} (ho : o.op = .unOp .neg t xo) (hx : ev env xo = some (.v (.int k n))) : APure P N o env (.v (.int k (k.wrap (0 - n)))) := by
  intro F h a w s
  have hr := s.ev hx
  generalize hvx : a.eval xo = vx at hr
  cases hr
  exact ⟨_, .v _, fun w' => by simp [execOp, ho, hvx, Op.unary, Op.intArith]⟩

def intKindOf (P : Program) (t : TypeId) : Option IntKind :=
  match P.underlying t with
  | some (.int k) => some k
  | _ => none
theorem intKindOf_spec {t : TypeId} {k : IntKind} (ht : intKindOf P t = some k) : P.underlying t = some (.int k) := by
  unfold intKindOf at ht
  split at ht <;> simp_all
theorem pConv {o : Oper} {t t' : TypeId} {xo : Operand} {k k' k0 : IntKind} {n n' : Int} (ho : o.op = .convert t t' xo) (hx : ev env xo = some (.v (.int k n))) (ht0 : intKindOf P t = some k0) (ht : intKindOf P t' = some k') (hn : k'.wrap n = n') : APure P N o env (.v (.int k' n')) := by
  subst hn
  intro F h a w s
  have hr := s.ev hx
  generalize hvx : a.eval xo = vx at hr
  cases hr
  exact ⟨_, .v _, fun w' => by simp [execOp, ho, hvx, convert, run_underlying' (intKindOf_spec ht), run_underlying' (intKindOf_spec ht0), Conv.intToInt]⟩

/-! ### Lengths -/
def isSl (P : Program) (t : TypeId) : Bool := match P.underlying t with | some (.slice _) => true | _ => false
theorem isSl_spec {t : TypeId} (ht : isSl P t = true) : ∃ e, P.underlying t = some (.slice e) := by
  unfold isSl at ht
  split at ht
  · rename_i e he; exact ⟨e, he⟩
  · simp at ht
theorem pLenS {o : Oper} {t : TypeId} {xo : Operand} {sz : Nat} {es : List (List AV)} (ho : o.op = .call ⟨.builtin .len, #[xo], #[t]⟩) (hx : ev env xo = some (.sl sz es)) (ht : isSl P t = true) : APure P N o env (.int es.length) := by
  intro F h a w s
  obtain ⟨e, he⟩ := isSl_spec ht
  have hr := s.ev hx
  generalize hvx : a.eval xo = vx at hr
  cases hr <;> exact ⟨_, .v _, fun w' => by simp [execOp, ho, resolve, invoke, builtin, hvx, Builtin.len_, run_underlying' he, goInt]⟩
theorem pLenV {o : Oper} {t : TypeId} {xo : Operand} {ad : Option Addr} {n c : Nat} (ho : o.op = .call ⟨.builtin .len, #[xo], #[t]⟩) (hx : ev env xo = some (.v (.slice ad n c))) (ht : isSl P t = true) : APure P N o env (.int n) := by
  intro F h a w s
  obtain ⟨e, he⟩ := isSl_spec ht
  have hr := s.ev hx
  generalize hvx : a.eval xo = vx at hr
  cases hr
  exact ⟨_, .v _, fun w' => by simp [execOp, ho, resolve, invoke, builtin, hvx, Builtin.len_, run_underlying' he, goInt]⟩

/-! ### Parts of tuples and structs, function values -/
theorem pExt {o : Oper} {xo : Operand} {i : Nat} {vs : List AV} {av : AV} (ho : o.op = .extract xo i) (hx : ev env xo = some (.tup vs)) (hi : vs[i]? = some av) : APure P N o env av := by
  intro F h a w s
  have hr := s.ev hx
  generalize hvx : a.eval xo = vx at hr
  cases hr with
  | tup _ xs hl hR =>
    have hlt : i < xs.size := by rw [hl]; exact (List.getElem?_eq_some_iff.1 hi).1
    exact ⟨xs[i], hR i av _ hi (by simp [hlt]), fun w' => by simp [execOp, ho, hvx, Instr.extract, hlt]⟩

theorem pFn {o : Oper} {fn : Fn} {caps : Array Operand} {l : List AV} (ho : o.op = .makeFunc fn #[] caps) (hl : evs env caps.toList = some l) : APure P N o env (.fn fn l) := by
  intro F h a w s
  obtain ⟨h1, h2⟩ := reps_evs s caps.toList l hl
  refine ⟨_, .fn fn l (caps.map a.eval) (by simpa using h1) (fun j av x hj hx => h2 j av x hj (by simpa using hx)), fun w' => by simp [execOp, ho, Instr.makeFunc]⟩

/-- A value's cells. -/
def avCells : AV → List AV
  | .agg cs => cs
  | .v (.agg xs) => xs.toList.map .v
  | av => [av]

theorem rep_cells {F : Nat → Prop} {w : World} {av : AV} {x : Value} (hr : Rep F w av x) : x.cells.size = (avCells av).length ∧ ∀ (j : Nat) c y, (avCells av)[j]? = some c → x.cells[j]? = some y → Rep F w c y := by
  have one : ∀ av x, Rep F w av x → avCells av = [av] → x.cells = #[x] → x.cells.size = (avCells av).length ∧ ∀ (j : Nat) c y, (avCells av)[j]? = some c → x.cells[j]? = some y → Rep F w c y := by
    intro av x hr h1 h2
    rw [h1, h2]
    refine ⟨rfl, fun j c y hc hy => ?_⟩
    cases j with
    | zero => simp at hc hy; subst hc; subst hy; exact hr
    | succ j => simp at hc
  cases hr with
  | v x =>
    cases x with
    | agg xs =>
      refine ⟨by simp [avCells, Value.cells], fun j c y hc hy => ?_⟩
      simp only [avCells, List.getElem?_map, Option.map_eq_some_iff] at hc
      obtain ⟨z, hz, rfl⟩ := hc
      simp only [Value.cells] at hy
      have : z = y := by
        have h1 : xs.toList[j]? = some y := by simpa using hy
        rw [hz] at h1
        exact Option.some.inj h1
      subst this
      exact .v z
    | _ => exact one _ _ (.v _) rfl rfl
  | agg cs xs hl h1 hR => exact ⟨by simpa [avCells, Value.cells] using hl, fun j c y hc hy => hR j c y hc hy⟩
  | sl0 => exact one _ _ (.sl0 _ _ _) rfl rfl
  | sl sz es b p c X a b' c' d e f => exact one _ _ (.sl sz es b p c X a b' c' d e f) rfl rfl
  | sp cs b p X a b' c d => exact one _ _ (.sp cs b p X a b' c d) rfl rfl
  | tup cs xs a b => exact one _ _ (.tup cs xs a b) rfl rfl
  | fn f cs xs a b => exact one _ _ (.fn f cs xs a b) rfl rfl

theorem mem_extract' {xs : Array Value} {i j : Nat} {x : Value} {p : Value → Prop} (hp : ∀ x ∈ xs, p x) (hx : x ∈ xs.extract i j) : p x := by
  obtain ⟨k, hk⟩ := Array.mem_iff_getElem?.1 hx
  rw [Array.getElem?_extract] at hk
  split at hk
  · exact hp x (Array.mem_of_getElem? hk)
  · simp at hk

theorem pFieldA {o : Oper} {t : TypeId} {xo : Operand} {f off n : Nat} {cs : List AV} (ho : o.op = .field t xo f) (hx : ev env xo = some (.agg cs)) (hf : fieldOf P t f = some (off, n, true)) : APure P N o env (.agg ((cs.drop off).take n)) := by
  intro F h a w s
  have hr := s.ev hx
  obtain ⟨fs, fd, h1, h2, h3, h4, h5⟩ := fieldOf_spec hf
  generalize hvx : a.eval xo = vx at hr
  cases hr with
  | agg cs xs hl h1' hR =>
    refine ⟨_, .agg _ (xs.extract off (off + n)) (by simp [hl]; omega) (fun x hx => mem_extract' h1' hx) (fun j av x hj hx => ?_), fun w' => by simp [execOp, ho, hvx, Instr.field, run_underlying' h1, h2, asAgg, part, run_isAgg h4, run_sizeOf h4, h3]⟩
    have hjn : j < n := by have := (List.getElem?_eq_some_iff.1 hj).1; simp at this; omega
    rw [List.getElem?_take_of_lt hjn, List.getElem?_drop] at hj
    rw [Array.getElem?_extract] at hx
    split at hx
    · exact hR (off + j) av x hj hx
    · simp at hx

theorem pField1 {o : Oper} {t : TypeId} {xo : Operand} {f off n : Nat} {cs : List AV} {av : AV} (ho : o.op = .field t xo f) (hx : ev env xo = some (.agg cs)) (hf : fieldOf P t f = some (off, n, false)) (hc : cs[off]? = some av) : APure P N o env av := by
  intro F h a w s
  have hr := s.ev hx
  obtain ⟨fs, fd, h1, h2, h3, h4, h5⟩ := fieldOf_spec hf
  generalize hvx : a.eval xo = vx at hr
  cases hr with
  | agg cs xs hl h1' hR =>
    have hlt : off < xs.size := by rw [hl]; exact (List.getElem?_eq_some_iff.1 hc).1
    exact ⟨xs[off], hR off av _ hc (by simp [hlt]), fun w' => by simp [execOp, ho, hvx, Instr.field, run_underlying' h1, h2, asAgg, part, run_isAgg h4, run_sizeOf h4, h3, hlt]⟩

end A
end Go.Proofs.Ytmcannmjielalaa
