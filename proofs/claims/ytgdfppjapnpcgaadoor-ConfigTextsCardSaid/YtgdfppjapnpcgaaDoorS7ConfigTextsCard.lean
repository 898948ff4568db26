/- Texts that ConfigTextsCard's proof rests on, part 8. -/
import Derived.ChangeKeysEq
import Derived.Test.YtgdfppjapnpcgaaDoorS6ConfigTextsCard
set_option linter.unusedVariables false
set_option linter.unusedSimpArgs false
namespace Go.Proofs.YtgdfppjapnpcgaaDoor
namespace A
variable {P : Program} {N : Nat} {env : Env} {h : List HA} {K : Cont} {X : List (Nat × Cont)} {Rt : Cont}
def isPtrT (P : Program) (t : TypeId) : Bool := match P.underlying t with | some (.pointer _) => true | _ => false
/-! ### '==' cell by cell -/
inductive EQ where
 | i
 | b
 | s
 | p
 deriving DecidableEq
section
variable {F : Nat → Prop} {w0 : World} {cs ds : List AV} {xs ys : Array Value}
end
/-- A region that draws its order, where only a part of what is owned stays as it is. -/
theorem aDrawS {id : Nat} {ops : Array Oper} {T : Bool × List (List Nat × List Nat)} {Bs : List Nat} {h1 r : List HA} (hT : Go.Proofs.YtgdfppjapnpcgaaDoorW.PrintLast.rtab .any ops = T) (hB : Go.Proofs.YtgdfppjapnpcgaaDoorW.PrintLast.waitsOk T.2 Bs = true) (ds : List Nat) (n : Nat) (l : Array Bool) (hm : P.follows .mixedOrders = true) (hn : ops.size = n) (hl : Array.replicate n false = l)
   (ht : Tk h h1 r) (hk : Tab ops T Bs → ADraw2 P N ops ds n l env h1 env h K X Rt) (hnd : noDefer ops = true := by rfl) : AWP P N (.region id ops true) env h K X Rt := by
 intro ro F a w _ s
 have hR : R F h w.drew := ⟨fun x hx => HARep.mono (w := w) (w' := w.drew) (fun _ h => h) (fun _ _ => rfl) (fun _ _ => rfl) (s.r.rep x hx), s.r.nd, s.r.lt, s.r.sep⟩
 have hE : Ext F h w F h w.drew := ⟨rfl, rfl, rfl, Nat.le_refl _, fun _ _ _ => rfl, fun _ h => .inl h, fun _ h => h, fun _ h => .inl h⟩
 have s1 := s.go hE hR
 have key := hk ⟨hT, hB⟩ ⟨F, h, w, a.defers⟩ F w.drew F a w.drew ⟨s1.r.sub ht, s1.size, s1.env⟩ s1 hE rfl (fun _ h => h) (fun b hb => .inl ((owns_perm ht.perm).mem_iff.2 (by rw [owns_append]; exact List.mem_append_left _ hb))) .refl
 subst hn
 subst hl
 refine wpIn_region_draw fun t => ?_
 simp only [Region.schedule, hm, Bool.true_or, if_true]
 exact opsIn_ro hnd _ a _ (ops_in noLets _ a _ (wpAny_sound ops.size t _ a _ (Go.Proofs.YtgdfppjapnpcgaaDoorW.PrintLast.wpAny_of_last _ _ _ _ key)))
/-! ### Two bools -/
def isBoolT (P : Program) (t : TypeId) : Bool := match P.underlying t with | some .bool => true | _ => false
theorem pEqB {o : Oper} {op : BinOp} {t t' : TypeId} {xo yo : Operand} {a b q : Bool} (hop : o.op = .binOp op t xo yo t') (hb : op = .eql ∨ op = .neq) (hx : ev env xo = some (.v (.bool a))) (hy : ev env yo = some (.v (.bool b))) (ht : isBoolT P t = true) (hv : (if op = .eql then a == b else !(a == b)) = q) : APure P N o env (.bool q) := by
 subst hv
 intro F h ac w st
 have hr := st.ev hx
 have hr' := st.ev hy
 generalize hvx : ac.eval xo = vx at hr
 generalize hvy : ac.eval yo = vy at hr'
 cases hr; cases hr'
 unfold isBoolT at ht
 split at ht
 case h_2 => cases ht
 rename_i hu
 refine ⟨_, .v _, fun w' => ?_⟩
 have he : (Op.equal t (.bool a) (.bool b)).run P w' = .ok (a == b) w' := run_equalIn_bool' w' 9999 t a b hu
 rcases hb with rfl | rfl
 ·simp [execOp, hop, hvx, hvy, eqGuard, binOp, he]
 ·simp [execOp, hop, hvx, hvy, eqGuard, binOp, he]
end A
end Go.Proofs.YtgdfppjapnpcgaaDoor
