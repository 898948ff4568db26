/- What functions of the program compute: opensnob42 -/
import Derived.Test.YtkgemkadebgeoaaBopens42
import Derived.Test.YtkgemkadebgeoaaAbs13
import Derived.Test.YtkgemkadebgeoaaProg
import Derived.KernelRfl
set_option linter.unusedVariables false
set_option linter.unusedSimpArgs false
namespace Go.Proofs.Ytkgemkadebgeoaa
namespace A

theorem op_u16 : OpC Try.prog 50 1 Nat (fun n => [.v (.int .u16 (n : Int))]) (fun n => n < 65536) :=
  opMapP (opInt Try.underlying50) (fun x => x.toNat) (fun x hx => by simp [Int.toNat_of_nonneg (u16_range hx).1]) (fun x hx => by have := u16_range hx; show x.toNat < 65536; omega)
theorem op_Entry : OpC Try.prog 31 3 (Nat × Int × Int) (fun x => [u32 x.1, .int x.2.1, .int x.2.2]) (fun x => x.1 < 2 ^ 32) :=
  opMapP (opStruct Try.underlying31 (by kernel_rfl) (fsCons rfl (by kernel_rfl) (opStruct Try.underlying29 (by kernel_rfl) (fsCons rfl (by kernel_rfl) (opInt Try.underlying27) (fsCons rfl (by kernel_rfl) (opInt Try.underlying3) fsNil))) (fsCons rfl (by kernel_rfl) (opInt Try.underlying3) fsNil))) (fun x => (x.1.1.toNat, x.1.2.1, x.2.1)) (fun x hx => by simp [Int.toNat_of_nonneg (u32_range hx.1.1).1]) (fun x hx => by have := u32_range hx.1.1; show x.1.1.toNat < 2 ^ 32; omega)

end A
end Go.Proofs.Ytkgemkadebgeoaa
