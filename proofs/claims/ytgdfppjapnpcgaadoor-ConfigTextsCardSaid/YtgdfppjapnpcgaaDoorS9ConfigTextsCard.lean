/- Texts that ConfigTextsCard's proof rests on, part 10. -/
import Derived.Shelf.Slices.In.SortNone
import Derived.Shelf.Sort.Plain
import Derived.Sort.OwnSortedInts
import Derived.Test.YtgdfppjapnpcgaaDoorS8ConfigTextsCard
set_option linter.unusedVariables false
set_option linter.unusedSimpArgs false
namespace Go.Proofs.YtgdfppjapnpcgaaDoor
namespace A
open Go.Sort Go.Shelf
def intA (n : Int) : List AV := [.int n]
end A
end Go.Proofs.YtgdfppjapnpcgaaDoor
namespace Go.Proofs.YtgdfppjapnpcgaaDoor
namespace A
variable {P : Program} {N : Nat} {env : Env} {h : List HA} {K : Cont} {X : List (Nat × Cont)} {Rt : Cont}
theorem Deep.refl : ∀ {rs : List (List AV)}, Deep h rs rs
 | [] => .nil
 | [] :: rs => .row Deep.refl
 | (_ :: r) :: rs => .same (Deep.refl (rs := r :: rs))
end A
end Go.Proofs.YtgdfppjapnpcgaaDoor
