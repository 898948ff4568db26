/- What functions of the program compute: opens51 -/
import Derived.Test.YtmkphhjlmhhokaaBlaw51
import Derived.Test.YtmkphhjlmhhokaaAbs13
import Derived.Test.YtmkphhjlmhhokaaProg
import Derived.KernelRfl
set_option linter.unusedVariables false
set_option linter.unusedSimpArgs false
namespace Go.Proofs.Ytmkphhjlmhhokaa
namespace A

theorem op_pair : OpC Try.prog 22 2 (Int × Int) (fun x => [.int x.1, .int x.2]) (fun _ => True) :=
  opMapP (opArray Try.underlying22 (by kernel_rfl) (by kernel_rfl) (opInt Try.underlying3)) (fun l => (l.getD 0 0, l.getD 1 0)) (fun l hl => by
    match l, hl.1 with
    | [a, b], _ => rfl) (fun _ _ => trivial)

end A
end Go.Proofs.Ytmkphhjlmhhokaa
