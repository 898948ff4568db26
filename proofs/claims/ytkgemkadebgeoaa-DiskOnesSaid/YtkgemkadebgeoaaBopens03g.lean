/- What functions of the program compute: opens03g -/
import Derived.Test.YtkgemkadebgeoaaBlaw03g
import Derived.Test.YtkgemkadebgeoaaAbs13
import Derived.Test.YtkgemkadebgeoaaProg
import Derived.KernelRfl
set_option linter.unusedVariables false
set_option linter.unusedSimpArgs false
namespace Go.Proofs.Ytkgemkadebgeoaa
namespace A

theorem i64_hi {n : Int} (h : (Lit.int .i64 n).wf = true) : n ≤ 9223372036854775807 := by
  simp only [Lit.wf, Bool.and_eq_true, decide_eq_true_eq] at h
  have e2 : IntKind.i64.max = 9223372036854775807 := rfl
  omega
theorem op_by : OpC Try.prog 5 1 Nat by1 (fun n => n < 256) :=
  opMapP (opInt Try.underlying5) (fun x => x.toNat) (fun x hx => by simp [by1, Int.toNat_of_nonneg (u8_range hx).1]) (fun x hx => by have := u8_range hx; show x.toNat < 256; omega)
theorem op_DTear : OpC Try.prog 101 2 DTear tearC (fun _ => True) :=
  opMapP (opStruct Try.underlying101 (by kernel_rfl) (fsCons rfl (by kernel_rfl) (opInt Try.underlying3) (fsCons rfl (by kernel_rfl) (opSlice Try.underlying48 (by kernel_rfl) (by decide) op_by) fsNil))) (fun x => ⟨x.1, x.2.1⟩) (fun x hx => rfl) (fun _ _ => trivial)
theorem op_DAct : OpC Try.prog 89 5 DAct dactC (fun a => a.n ≤ 9223372036854775807) :=
  opMapP (opStruct Try.underlying89 (by kernel_rfl) (fsCons rfl (by kernel_rfl) (opInt Try.underlying3) (fsCons rfl (by kernel_rfl) (opInt Try.underlying3) (fsCons rfl (by kernel_rfl) (opSlice Try.underlying48 (by kernel_rfl) (by decide) op_by) (fsCons rfl (by kernel_rfl) (opBool Try.underlying4) (fsCons rfl (by kernel_rfl) (opSlice Try.underlying87 (by kernel_rfl) (by decide) op_DTear) fsNil)))))) (fun x => ⟨x.1, x.2.1, x.2.2.1, x.2.2.2.1, x.2.2.2.2.1⟩) (fun x hx => rfl) (fun x hx => i64_hi hx.2.1)

end A
end Go.Proofs.Ytkgemkadebgeoaa
