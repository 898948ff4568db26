/- What functions of the program compute: opensrc -/
import Derived.Test.YtmcannmjielalaaBgraph24b
import Derived.Test.YtmcannmjielalaaAbs13
import Derived.Test.YtmcannmjielalaaProg
import Derived.KernelRfl
set_option linter.unusedVariables false
set_option linter.unusedSimpArgs false
namespace Go.Proofs.Ytmcannmjielalaa
namespace A

theorem op_Arc : OpC Try.prog 36 3 Arc arcC (fun _ => True) :=
  opMapP (opStruct Try.underlying36 (by kernel_rfl) (fsCons rfl (by kernel_rfl) (opInt Try.underlying3) (fsCons rfl (by kernel_rfl) (opInt Try.underlying3) (fsCons rfl (by kernel_rfl) (opInt Try.underlying3) fsNil)))) (fun x => ⟨x.1, x.2.1, x.2.2.1⟩) (fun x hx => rfl) (fun _ _ => trivial)

theorem op_n3 : OpC Try.prog 44 3 (Int × Int × Int) (fun p => [.int p.1, .int p.2.1, .int p.2.2]) (fun _ => True) :=
  opMapP (opArray (g := fun n => .int n) Try.underlying44 (by kernel_rfl) (by kernel_rfl) (opInt Try.underlying3)) (fun l => (l.getD 0 0, l.getD 1 0, l.getD 2 0)) (fun l hl => by match l, hl.1 with | [a, b, c], _ => rfl) (fun _ _ => trivial)

end A
end Go.Proofs.Ytmcannmjielalaa
