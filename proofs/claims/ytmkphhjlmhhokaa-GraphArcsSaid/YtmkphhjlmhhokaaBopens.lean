/- What functions of the program compute: opens -/
import Derived.Test.YtmkphhjlmhhokaaBlawarcs
import Derived.Test.YtmkphhjlmhhokaaAbs13
import Derived.Test.YtmkphhjlmhhokaaProg
import Derived.KernelRfl
set_option linter.unusedVariables false
set_option linter.unusedSimpArgs false
namespace Go.Proofs.Ytmkphhjlmhhokaa
namespace A

theorem op_Link : OpC Try.prog 54 2 Link linkC (fun _ => True) :=
  opMap (opStruct Try.underlying54 (by kernel_rfl) (fsCons rfl (by kernel_rfl) (opInt Try.underlying3) (fsCons rfl (by kernel_rfl) (opInt Try.underlying3) fsNil))) (fun x => ⟨x.1, x.2.1⟩) (fun _ => rfl) (fun _ _ => trivial)

theorem op_Lsa : OpC Try.prog 52 3 Lsa lsaC (fun _ => True) :=
  opMap (opStruct Try.underlying52 (by kernel_rfl) (fsCons rfl (by kernel_rfl) (opInt Try.underlying3) (fsCons rfl (by kernel_rfl) (opInt Try.underlying3) (fsCons rfl (by kernel_rfl) (opSlice Try.underlying50 (by kernel_rfl) (by decide) op_Link) fsNil)))) (fun x => ⟨x.1, x.2.1, x.2.2.1⟩) (fun _ => rfl) (fun _ _ => trivial)

theorem op_Arc : OpC Try.prog 34 3 Arc arcC (fun _ => True) :=
  opMap (opStruct Try.underlying34 (by kernel_rfl) (fsCons rfl (by kernel_rfl) (opInt Try.underlying3) (fsCons rfl (by kernel_rfl) (opInt Try.underlying3) (fsCons rfl (by kernel_rfl) (opInt Try.underlying3) fsNil)))) (fun x => ⟨x.1, x.2.1, x.2.2.1⟩) (fun _ => rfl) (fun _ _ => trivial)

end A
end Go.Proofs.Ytmkphhjlmhhokaa
