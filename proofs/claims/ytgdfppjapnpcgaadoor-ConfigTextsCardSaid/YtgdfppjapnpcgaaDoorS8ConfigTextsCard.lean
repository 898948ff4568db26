/- Texts that ConfigTextsCard's proof rests on, part 9. -/
import Derived.Laws.OwnMore
import Derived.Maps.RangeRun
import Derived.Test.YtgdfppjapnpcgaaDoorS7ConfigTextsCard
set_option linter.unusedVariables false
set_option linter.unusedSimpArgs false
namespace Go.Proofs.YtgdfppjapnpcgaaDoor
namespace A
variable {P : Program} {N : Nat} {env : Env} {h : List HA} {K : Cont} {X : List (Nat × Cont)} {Rt : Cont}
/-! ### Ranges over maps -/
theorem R.same {F : Nat → Prop} {h k : List HA} {w : World} (r : R F h w) (nd : (owns k).Nodup) (sub : ∀ b ∈ owns k, b ∈ owns h) (hx : ∀ x ∈ k, HARep F w x) : R F k w :=
 ⟨hx, nd, fun b hb => r.lt b (sub b hb), fun b hb => ⟨(r.sep b hb).1, fun hm => (r.sep b hb).2 (sub b hm)⟩⟩
theorem Ext.same {F : Nat → Prop} {h k : List HA} {w : World} (sub : ∀ b ∈ owns k, b ∈ owns h) : Ext F h w F k w :=
 ⟨rfl, rfl, rfl, Nat.le_refl _, fun _ _ _ => rfl, fun b hb => .inl (sub b hb), fun _ h => h, fun _ h => .inl h⟩
end A
end Go.Proofs.YtgdfppjapnpcgaaDoor
