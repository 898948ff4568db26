/- What functions of the program compute: opensord42 -/
import Derived.Test.YtkgemkadebgeoaaBorder42
import Derived.Test.YtkgemkadebgeoaaAbs13
import Derived.Test.YtkgemkadebgeoaaProg
import Derived.KernelRfl
set_option linter.unusedVariables false
set_option linter.unusedSimpArgs false
namespace Go.Proofs.Ytkgemkadebgeoaa
namespace A

theorem op_E42 : OpC Try.prog 31 3 E42 e42C (fun x => x.b < 2 ^ 32) :=
  opMapP (opStruct Try.underlying31 (by kernel_rfl) (fsCons rfl (by kernel_rfl) (opStruct Try.underlying29 (by kernel_rfl) (fsCons rfl (by kernel_rfl) (opInt Try.underlying27) (fsCons rfl (by kernel_rfl) (opInt Try.underlying3) fsNil))) (fsCons rfl (by kernel_rfl) (opInt Try.underlying3) fsNil))) (fun x => ⟨x.1.1.toNat, x.1.2.1, x.2.1⟩) (fun x hx => by simp [e42C, Int.toNat_of_nonneg (u32_range hx.1.1).1]) (fun x hx => by have := u32_range hx.1.1; show x.1.1.toNat < 2 ^ 32; omega)
theorem op_u8 : OpC Try.prog 5 1 Nat u8C (fun n => n < 256) :=
  opMapP (opInt Try.underlying5) (fun x => x.toNat) (fun x hx => by simp [u8C, Int.toNat_of_nonneg (u8_range hx).1]) (fun x hx => by have := u8_range hx; show x.toNat < 256; omega)
theorem op_u32 : OpC Try.prog 27 1 Nat (fun n => [u32 n]) (fun n => n < 2 ^ 32) :=
  opMapP (opInt Try.underlying27) (fun x => x.toNat) (fun x hx => by simp [Int.toNat_of_nonneg (u32_range hx).1]) (fun x hx => by have := u32_range hx; show x.toNat < 2 ^ 32; omega)

end A
end Go.Proofs.Ytkgemkadebgeoaa
