/- What functions of the program compute: opens40 -/
import Derived.Test.YtkgemkadebgeoaaBlaw40
import Derived.Test.YtkgemkadebgeoaaAbs13
import Derived.Test.YtkgemkadebgeoaaProg
import Derived.KernelRfl
set_option linter.unusedVariables false
set_option linter.unusedSimpArgs false
namespace Go.Proofs.Ytkgemkadebgeoaa
namespace A

theorem op_Edge : OpC Try.prog 64 3 Edge edgeC (fun _ => True) :=
  opMapP (opStruct Try.underlying64 (by kernel_rfl) (fsCons rfl (by kernel_rfl) (opInt Try.underlying3) (fsCons rfl (by kernel_rfl) (opInt Try.underlying3) (fsCons rfl (by kernel_rfl) (opInt Try.underlying3) fsNil)))) (fun x => ⟨x.1, x.2.1, x.2.2.1⟩) (fun x hx => rfl) (fun _ _ => trivial)
theorem u64_0 {n : Int} (h : (Lit.int .u64 n).wf = true) : 0 ≤ n := by
  simp only [Lit.wf, Bool.and_eq_true, decide_eq_true_eq] at h
  have e2 : IntKind.u64.min = 0 := rfl
  omega

end A
end Go.Proofs.Ytkgemkadebgeoaa
