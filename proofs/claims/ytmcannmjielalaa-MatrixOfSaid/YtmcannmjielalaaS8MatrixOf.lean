/- Texts that MatrixOf's proof rests on, part 9. -/
import Derived.ChangeKeysEq
import Derived.Test.YtmcannmjielalaaS7MatrixOf
set_option linter.unusedVariables false
set_option linter.unusedSimpArgs false
namespace Go.Proofs.Ytmcannmjielalaa
namespace A
variable {P : Program} {N : Nat} {env : Env} {h : List HA} {K : Cont} {X : List (Nat × Cont)} {Rt : Cont}
/-! ### '==' cell by cell -/
inductive EQ where
  | i
  | b
  | s
  | p
  deriving DecidableEq
section
variable {F : Nat → Prop} {w0 : World} {cs ds : List AV} {xs ys : Array Value}
end
theorem pShrN {o : Oper} {t t' : TypeId} {xo yo : Operand} {k k' : IntKind} {a r : Nat} {y : Int} (ho : o.op = .binOp .shr t xo yo t') (hx : ev env xo = some (.v (.int k (a : Int)))) (hy : ev env yo = some (.v (.int k' y))) (hr : y = (r : Int)) (hk : r ≤ k.bits) : APure P N o env (.v (.int k ((a / 2 ^ r : Nat) : Int))) := by
  subst hr
  have := pShr (P := P) (N := N) ho hx hy (by omega)
  rw [Int.toNat_natCast, Nat.min_eq_left hk] at this
  have e : (a : Int).fdiv (2 ^ r) = ((a / 2 ^ r : Nat) : Int) := by
    have : (2 : Int) ^ r = ((2 ^ r : Nat) : Int) := by simp
    rw [this]
    exact (Int.ofNat_fdiv a (2 ^ r)).symm
  rwa [e] at this
/-! ### min, max -/
theorem pMin2 {o : Oper} {xo yo : Operand} {ts : Array TypeId} {k k' : IntKind} {x y z : Int} (ho : o.op = .call ⟨.builtin .min, #[xo, yo], ts⟩) (hx : ev env xo = some (.v (.int k x))) (hy : ev env yo = some (.v (.int k' y))) (hz : (if y < x then y else x) = z) : APure P N o env (.v (.int k z)) := by
  subst hz
  intro F h a w st
  have hr := st.ev hx
  have hr' := st.ev hy
  generalize hv : a.eval xo = v at hr
  generalize hv' : a.eval yo = v' at hr'
  cases hr; cases hr'
  exact ⟨_, .v _, fun w' => by simp [execOp, ho, hv, hv', resolve, invoke, builtin, Builtin.min_, Builtin.min2]⟩
theorem pMax2 {o : Oper} {xo yo : Operand} {ts : Array TypeId} {k k' : IntKind} {x y z : Int} (ho : o.op = .call ⟨.builtin .max, #[xo, yo], ts⟩) (hx : ev env xo = some (.v (.int k x))) (hy : ev env yo = some (.v (.int k' y))) (hz : (if y > x then y else x) = z) : APure P N o env (.v (.int k z)) := by
  subst hz
  intro F h a w st
  have hr := st.ev hx
  have hr' := st.ev hy
  generalize hv : a.eval xo = v at hr
  generalize hv' : a.eval yo = v' at hr'
  cases hr; cases hr'
  exact ⟨_, .v _, fun w' => by simp [execOp, ho, hv, hv', resolve, invoke, builtin, Builtin.max_, Builtin.max2]⟩
/-! ### A call that is handed all that is owned but what stands ahead -/
theorem weak_perm {h' : List HA} (hp : h.Perm h') : Weak N env h env h' := fun F a w s =>
  ⟨F, ⟨s.r.perm hp, s.size, s.env⟩, (Ext.refl F h w).permR hp⟩
theorem tk_after : ∀ {l r : List HA}, Tk (l ++ r) r l
  | l, [] => by rw [List.append_nil]; exact .nil
  | l, x :: r => by
    have : Spl (l ++ x :: r) x (l ++ r) := by
      induction l with
      | nil => exact .hd
      | cons y l ih => exact .tl ih
    exact .cons this tk_after
/-- A region that draws its order, where only a part of what is owned stays as it is. -/
theorem aDrawS {id : Nat} {ops : Array Oper} {T : Bool × List (List Nat × List Nat)} {Bs : List Nat} {h1 r : List HA} (hT : Go.Proofs.YtmcannmjielalaaW.PrintLast.rtab .any ops = T) (hB : Go.Proofs.YtmcannmjielalaaW.PrintLast.waitsOk T.2 Bs = true) (ds : List Nat) (n : Nat) (l : Array Bool) (hm : P.follows .mixedOrders = true) (hn : ops.size = n) (hl : Array.replicate n false = l)
    (ht : Tk h h1 r) (hk : Tab ops T Bs → ADraw2 P N ops ds n l env h1 env h K X Rt) (hnd : noDefer ops = true := by rfl) : AWP P N (.region id ops true) env h K X Rt := by
  intro ro F a w _ s
  have hR : R F h w.drew := ⟨fun x hx => HARep.mono (w := w) (w' := w.drew) (fun _ h => h) (fun _ _ => rfl) (fun _ _ => rfl) (s.r.rep x hx), s.r.nd, s.r.lt, s.r.sep⟩
  have hE : Ext F h w F h w.drew := ⟨rfl, rfl, rfl, Nat.le_refl _, fun _ _ _ => rfl, fun _ h => .inl h, fun _ h => h, fun _ h => .inl h, Nat.le_succ _⟩
  have s1 := s.go hE hR
  have key := hk ⟨hT, hB⟩ ⟨F, h, w, a.defers⟩ F w.drew F a w.drew ⟨s1.r.sub ht, s1.size, s1.env⟩ s1 hE rfl (fun _ h => h) (fun b hb => .inl ((owns_perm ht.perm).mem_iff.2 (by rw [owns_append]; exact List.mem_append_left _ hb))) .refl
  subst hn
  subst hl
  refine wpIn_region_draw fun t => ?_
  simp only [Region.schedule, hm, Bool.true_or, if_true]
  exact opsIn_ro hnd _ a _ (ops_in noLets _ a _ (wpAny_sound ops.size t _ a _ (Go.Proofs.YtmcannmjielalaaW.PrintLast.wpAny_of_last _ _ _ _ key)))
end A
end Go.Proofs.Ytmcannmjielalaa
