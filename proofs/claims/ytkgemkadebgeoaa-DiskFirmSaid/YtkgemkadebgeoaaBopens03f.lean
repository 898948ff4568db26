/- What functions of the program compute: opens03f -/
import Derived.Test.YtkgemkadebgeoaaBopens03
import Derived.Test.YtkgemkadebgeoaaAbs13
import Derived.Test.YtkgemkadebgeoaaProg
import Derived.KernelRfl
set_option linter.unusedVariables false
set_option linter.unusedSimpArgs false
namespace Go.Proofs.Ytkgemkadebgeoaa
namespace A

structure DPut where
  at_ : Nat
  b : BS
theorem op_Put : OpC Try.prog 76 2 DPut (fun p => [.v (.int .u8 p.at_), .sl 1 (p.b.map by1)]) (fun p => p.at_ < 256) :=
  opMapP (opStruct Try.underlying76 (by kernel_rfl) (fsCons rfl (by kernel_rfl) op_by (fsCons rfl (by kernel_rfl) (opSlice Try.underlying48 (by kernel_rfl) (by decide) op_by) fsNil))) (fun x => ⟨x.1, x.2.1⟩) (fun x hx => rfl) (fun x hx => hx.1)

end A
end Go.Proofs.Ytkgemkadebgeoaa
