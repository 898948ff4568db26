/- Texts that NodeNobody's proof rests on, part 9. -/
import Derived.ChangeKeysEq
import Derived.Test.YthkgdhamnpiagaaGreatS7NodeNobody
set_option linter.unusedVariables false
set_option linter.unusedSimpArgs false
namespace Go.Proofs.YthkgdhamnpiagaaGreat
namespace A
variable {P : Program} {N : Nat} {env : Env} {h : List HA} {K : Cont} {X : List (Nat × Cont)} {Rt : Cont}
/-! ### nilCheck -/
theorem pNilV {o : Oper} {x : Operand} {b p : Nat} {s : Option Nat} (ho : o.op = .nilCheck x) (hx : ev env x = some (.v (.pointer (some ⟨b, p, s⟩)))) : APure P N o env (.v (.pointer (some ⟨b, p, s⟩))) := by
 intro F h a w st
 have hr := st.ev hx
 generalize hv : a.eval x = v at hr
 cases hr
 exact ⟨_, .v _, fun w' => by simp [execOp, ho, hv]⟩
/-! ### A pointer against nil -/
def ptrNil : Value → Option Bool
 | .pointer p => some p.isNone
 | _ => none
def isPtrT (P : Program) (t : TypeId) : Bool := match P.underlying t with | some (.pointer _) => true | _ => false
theorem run_eqPtrR (d : Nat) {t e : TypeId} (hu : P.underlying t = some (.pointer e)) (p : Option Addr) (w : World) : (Op.equalIn (d + 1) t (.pointer p) (.pointer none)).run P w = .ok p.isNone w := by
 cases p <;> simp [Op.equalIn, run_underlying' hu]
theorem pPtrNil {o : Oper} {op : BinOp} {t t' : TypeId} {xo : Operand} {v : Value} {b q : Bool} (hop : o.op = .binOp op t xo (.const (.pointer none)) t') (hb : op = .eql ∨ op = .neq) (hx : ev env xo = some (.v v)) (ht : isPtrT P t = true) (hn : ptrNil v = some b) (hv : (if op = .eql then b else !b) = q) : APure P N o env (.bool q) := by
 subst hv
 intro F h a w st
 have hr := st.ev hx
 generalize hv : a.eval xo = x at hr
 cases hr
 unfold isPtrT at ht
 split at ht
 case h_2 => cases ht
 rename_i e hu
 have hc : a.eval (.const (.pointer none)) = .pointer none := rfl
 refine ⟨_, .v _, fun w' => ?_⟩
 cases v <;> simp [ptrNil] at hn
 rename_i p
 subst hn
 have he : (Op.equal t (.pointer p) (.pointer none)).run P w' = .ok p.isNone w' := run_eqPtrR 9999 hu p w'
 rcases hb with rfl | rfl
 ·simp [execOp, hop, hv, hc, eqGuard, binOp, he]
 ·simp [execOp, hop, hv, hc, eqGuard, binOp, he]
/-! ### '==' cell by cell -/
inductive EQ where
 | i
 | b
 | s
 | p
 deriving DecidableEq
section
variable {F : Nat → Prop} {w0 : World} {cs ds : List AV} {xs ys : Array Value}
end
/-! ### Bits of u32 -/
theorem bits32 (a : Nat) (ha : a < 2 ^ 32) : (BitVec.ofInt 32 (a : Int)).toNat = a := by
 rw [BitVec.toNat_ofInt]
 have : ((a : Int) % ((2 ^ 32 : Nat) : Int)).toNat = a := by omega
 exact this
theorem u32_and {a b : Nat} (ha : a < 2 ^ 32) (hb : b < 2 ^ 32) : Value.int .u32 (IntKind.u32.wrap ((BitVec.ofInt IntKind.u32.bits (a : Int) &&& BitVec.ofInt IntKind.u32.bits (b : Int)).toNat : Int)) = .int .u32 ((a &&& b : Nat) : Int) := by
 have e : (BitVec.ofInt IntKind.u32.bits (a : Int) &&& BitVec.ofInt IntKind.u32.bits (b : Int)).toNat = a &&& b := by
   show (BitVec.ofInt 32 (a : Int) &&& BitVec.ofInt 32 (b : Int)).toNat = _
   rw [BitVec.toNat_and, bits32 a ha, bits32 b hb]
 have hlt : a &&& b < 2 ^ 32 := Nat.and_lt_two_pow _ hb
 rw [e, wrap_u32 (by omega) (by omega)]
theorem pShrN {o : Oper} {t t' : TypeId} {xo yo : Operand} {k k' : IntKind} {a r : Nat} {y : Int} (ho : o.op = .binOp .shr t xo yo t') (hx : ev env xo = some (.v (.int k (a : Int)))) (hy : ev env yo = some (.v (.int k' y))) (hr : y = (r : Int)) (hk : r ≤ k.bits) : APure P N o env (.v (.int k ((a / 2 ^ r : Nat) : Int))) := by
 subst hr
 have := pShr (P := P) (N := N) ho hx hy (by omega)
 rw [Int.toNat_natCast, Nat.min_eq_left hk] at this
 have e : (a : Int).fdiv (2 ^ r) = ((a / 2 ^ r : Nat) : Int) := by
   have : (2 : Int) ^ r = ((2 ^ r : Nat) : Int) := by simp
   rw [this]
   exact (Int.ofNat_fdiv a (2 ^ r)).symm
 rwa [e] at this
/-! ### min, max -/
theorem pMin2 {o : Oper} {xo yo : Operand} {ts : Array TypeId} {k k' : IntKind} {x y z : Int} (ho : o.op = .call ⟨.builtin .min, #[xo, yo], ts⟩) (hx : ev env xo = some (.v (.int k x))) (hy : ev env yo = some (.v (.int k' y))) (hz : (if y < x then y else x) = z) : APure P N o env (.v (.int k z)) := by
 subst hz
 intro F h a w st
 have hr := st.ev hx
 have hr' := st.ev hy
 generalize hv : a.eval xo = v at hr
 generalize hv' : a.eval yo = v' at hr'
 cases hr; cases hr'
 exact ⟨_, .v _, fun w' => by simp [execOp, ho, hv, hv', resolve, invoke, builtin, Builtin.min_, Builtin.min2]⟩
theorem pMax2 {o : Oper} {xo yo : Operand} {ts : Array TypeId} {k k' : IntKind} {x y z : Int} (ho : o.op = .call ⟨.builtin .max, #[xo, yo], ts⟩) (hx : ev env xo = some (.v (.int k x))) (hy : ev env yo = some (.v (.int k' y))) (hz : (if y > x then y else x) = z) : APure P N o env (.v (.int k z)) := by
 subst hz
 intro F h a w st
 have hr := st.ev hx
 have hr' := st.ev hy
 generalize hv : a.eval xo = v at hr
 generalize hv' : a.eval yo = v' at hr'
 cases hr; cases hr'
 exact ⟨_, .v _, fun w' => by simp [execOp, ho, hv, hv', resolve, invoke, builtin, Builtin.max_, Builtin.max2]⟩
/-! ### A call that is handed all that is owned but what stands ahead -/
theorem weak_perm {h' : List HA} (hp : h.Perm h') : Weak N env h env h' := fun F a w s =>
 ⟨F, ⟨s.r.perm hp, s.size, s.env⟩, (Ext.refl F h w).permR hp⟩
/-- A region that draws its order, where only a part of what is owned stays as it is. -/
theorem aDrawS {id : Nat} {ops : Array Oper} {T : Bool × List (List Nat × List Nat)} {Bs : List Nat} {h1 r : List HA} (hT : Go.Proofs.YthkgdhamnpiagaaGreatW.PrintLast.rtab .any ops = T) (hB : Go.Proofs.YthkgdhamnpiagaaGreatW.PrintLast.waitsOk T.2 Bs = true) (ds : List Nat) (n : Nat) (l : Array Bool) (hm : P.follows .mixedOrders = true) (hn : ops.size = n) (hl : Array.replicate n false = l)
   (ht : Tk h h1 r) (hk : Tab ops T Bs → ADraw2 P N ops ds n l env h1 env h K X Rt) (hnd : noDefer ops = true := by rfl) : AWP P N (.region id ops true) env h K X Rt := by
 intro ro F a w _ s
 have hR : R F h w.drew := ⟨fun x hx => HARep.mono (w := w) (w' := w.drew) (fun _ h => h) (fun _ _ => rfl) (fun _ _ => rfl) (s.r.rep x hx), s.r.nd, s.r.lt, s.r.sep⟩
 have hE : Ext F h w F h w.drew := ⟨rfl, rfl, rfl, Nat.le_refl _, fun _ _ _ => rfl, fun _ h => .inl h, fun _ h => h, fun _ h => .inl h, Nat.le_succ _⟩
 have s1 := s.go hE hR
 have key := hk ⟨hT, hB⟩ ⟨F, h, w, a.defers⟩ F w.drew F a w.drew ⟨s1.r.sub ht, s1.size, s1.env⟩ s1 hE rfl (fun _ h => h) (fun b hb => .inl ((owns_perm ht.perm).mem_iff.2 (by rw [owns_append]; exact List.mem_append_left _ hb))) .refl
 subst hn
 subst hl
 refine wpIn_region_draw fun t => ?_
 simp only [Region.schedule, hm, Bool.true_or, if_true]
 exact opsIn_ro hnd _ a _ (ops_in noLets _ a _ (wpAny_sound ops.size t _ a _ (Go.Proofs.YthkgdhamnpiagaaGreatW.PrintLast.wpAny_of_last _ _ _ _ key)))
/-! ### Two bools -/
def isBoolT (P : Program) (t : TypeId) : Bool := match P.underlying t with | some .bool => true | _ => false
theorem pEqB {o : Oper} {op : BinOp} {t t' : TypeId} {xo yo : Operand} {a b q : Bool} (hop : o.op = .binOp op t xo yo t') (hb : op = .eql ∨ op = .neq) (hx : ev env xo = some (.v (.bool a))) (hy : ev env yo = some (.v (.bool b))) (ht : isBoolT P t = true) (hv : (if op = .eql then a == b else !(a == b)) = q) : APure P N o env (.bool q) := by
 subst hv
 intro F h ac w st
 have hr := st.ev hx
 have hr' := st.ev hy
 generalize hvx : ac.eval xo = vx at hr
 generalize hvy : ac.eval yo = vy at hr'
 cases hr; cases hr'
 unfold isBoolT at ht
 split at ht
 case h_2 => cases ht
 rename_i hu
 refine ⟨_, .v _, fun w' => ?_⟩
 have he : (Op.equal t (.bool a) (.bool b)).run P w' = .ok (a == b) w' := run_equalIn_bool' w' 9999 t a b hu
 rcases hb with rfl | rfl
 ·simp [execOp, hop, hvx, hvy, eqGuard, binOp, he]
 ·simp [execOp, hop, hvx, hvy, eqGuard, binOp, he]
end A
end Go.Proofs.YthkgdhamnpiagaaGreat
