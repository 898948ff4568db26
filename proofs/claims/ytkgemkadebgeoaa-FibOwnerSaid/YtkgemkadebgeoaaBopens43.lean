/- What functions of the program compute: opens43 -/
import Derived.Test.YtkgemkadebgeoaaBlaw43b
import Derived.Test.YtkgemkadebgeoaaAbs13
import Derived.Test.YtkgemkadebgeoaaProg
import Derived.KernelRfl
set_option linter.unusedVariables false
set_option linter.unusedSimpArgs false
namespace Go.Proofs.Ytkgemkadebgeoaa
namespace A

theorem op_E42 : OpC Try.prog 31 3 E42 e42C (fun x => x.b < 2 ^ 32) :=
  opMapP (opStruct Try.underlying31 (by kernel_rfl) (fsCons rfl (by kernel_rfl) (opStruct Try.underlying29 (by kernel_rfl) (fsCons rfl (by kernel_rfl) (opInt Try.underlying27) (fsCons rfl (by kernel_rfl) (opInt Try.underlying3) fsNil))) (fsCons rfl (by kernel_rfl) (opInt Try.underlying3) fsNil))) (fun x => ⟨x.1.1.toNat, x.1.2.1, x.2.1⟩) (fun x hx => by simp [e42C, Int.toNat_of_nonneg (u32_range hx.1.1).1]) (fun x hx => by have := u32_range hx.1.1; show x.1.1.toNat < 2 ^ 32; omega)
theorem op_u8 : OpC Try.prog 5 1 Nat u8C (fun n => n < 256) :=
  opMapP (opInt Try.underlying5) (fun x => x.toNat) (fun x hx => by simp [u8C, Int.toNat_of_nonneg (u8_range hx).1]) (fun x hx => by have := u8_range hx; show x.toNat < 256; omega)
theorem op_u32 : OpC Try.prog 27 1 Nat (fun n => [u32 n]) (fun n => n < 2 ^ 32) :=
  opMapP (opInt Try.underlying27) (fun x => x.toNat) (fun x hx => by simp [Int.toNat_of_nonneg (u32_range hx).1]) (fun x hx => by have := u32_range hx; show x.toNat < 2 ^ 32; omega)

theorem op_Rt : OpC Try.prog 125 3 Rt rtC (fun _ => True) :=
  opMapP (opStruct Try.underlying125 (by kernel_rfl) (fsCons rfl (by kernel_rfl) (opInt Try.underlying3) (fsCons rfl (by kernel_rfl) (opInt Try.underlying3) (fsCons rfl (by kernel_rfl) (opInt Try.underlying60) fsNil)))) (fun x => ⟨x.1, x.2.1, x.2.2.1⟩) (fun x hx => rfl) (fun _ _ => trivial)
structure Tabs where
  rs : List Rt
  cs : List E42
  os : List E42
def tabsC (t : Tabs) : List AV := [.sl 3 (t.rs.map rtC), .sl 3 (t.cs.map e42C), .sl 3 (t.os.map e42C)]
structure TabsOk (t : Tabs) : Prop where
  cb : ∀ e ∈ t.cs, e.b < 2 ^ 32
  ob : ∀ e ∈ t.os, e.b < 2 ^ 32
  h1 : t.rs.length ≤ 9223372036854775807
  h2 : t.cs.length ≤ 9223372036854775807
  h3 : t.os.length ≤ 9223372036854775807
theorem op_Tabs : OpC Try.prog 115 3 Tabs tabsC TabsOk :=
  opMapP (opStruct Try.underlying115 (by kernel_rfl) (fsCons rfl (by kernel_rfl) (opSlice Try.underlying113 (by kernel_rfl) (by decide) op_Rt) (fsCons rfl (by kernel_rfl) (opSlice Try.underlying26 (by kernel_rfl) (by decide) op_E42) (fsCons rfl (by kernel_rfl) (opSlice Try.underlying26 (by kernel_rfl) (by decide) op_E42) fsNil)))) (fun x => ⟨x.1, x.2.1, x.2.2.1⟩) (fun x hx => rfl) (fun x hx => ⟨hx.2.1.1, hx.2.2.1.1, hx.1.2, hx.2.1.2, hx.2.2.1.2⟩)

end A
end Go.Proofs.Ytkgemkadebgeoaa
