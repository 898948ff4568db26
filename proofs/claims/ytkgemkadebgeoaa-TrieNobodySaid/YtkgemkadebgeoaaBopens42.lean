/- What functions of the program compute: opens42 -/
import Derived.Test.YtkgemkadebgeoaaBlaw42
import Derived.Test.YtkgemkadebgeoaaAbs13
import Derived.Test.YtkgemkadebgeoaaProg
import Derived.KernelRfl
set_option linter.unusedVariables false
set_option linter.unusedSimpArgs false
namespace Go.Proofs.Ytkgemkadebgeoaa
namespace A

theorem op_Act : OpC Try.prog 33 5 Act42 act42C act42Ok :=
  opMapP (opStruct Try.underlying33 (by kernel_rfl) (fsCons rfl (by kernel_rfl) (opBool Try.underlying4) (fsCons rfl (by kernel_rfl) (opStruct Try.underlying31 (by kernel_rfl) (fsCons rfl (by kernel_rfl) (opStruct Try.underlying29 (by kernel_rfl) (fsCons rfl (by kernel_rfl) (opInt Try.underlying27) (fsCons rfl (by kernel_rfl) (opInt Try.underlying3) fsNil))) (fsCons rfl (by kernel_rfl) (opInt Try.underlying3) fsNil))) (fsCons rfl (by kernel_rfl) (opInt Try.underlying27) fsNil)))) (fun x => ⟨x.1, x.2.1.1.1.toNat, x.2.1.1.2.1, x.2.1.2.1, x.2.2.1.toNat⟩) (fun x hx => by
    have h1 := u32_range hx.2.1.1.1
    have h2 := u32_range hx.2.2.1
    simp [act42C, Int.toNat_of_nonneg h1.1, Int.toNat_of_nonneg h2.1]) (fun x hx => by
    have h1 := u32_range hx.2.1.1.1
    have h2 := u32_range hx.2.2.1
    exact ⟨by show x.2.1.1.1.toNat < 2 ^ 32; omega, by show x.2.2.1.toNat < 2 ^ 32; omega⟩)

end A
end Go.Proofs.Ytkgemkadebgeoaa
