/- What the program's types are, each asked of the loaded program. -/
import Derived.Test.YtmkphhjlmhhokaaAbs12
import Derived.Test.YtmkphhjlmhhokaaProg
import Derived.KernelRfl
namespace Go.Proofs.Ytmkphhjlmhhokaa
namespace A
theorem el_31 : elemOf Try.prog 31 = some (34, 3, 24) := by kernel_rfl
theorem eq_34 : eqType Try.prog 34 = some [(0, .i), (1, .i), (2, .i)] := by kernel_rfl
theorem es_29 : elemSize Try.prog 29 = some 3 := by kernel_rfl
theorem es_31 : elemSize Try.prog 31 = some 3 := by kernel_rfl
theorem es_39 : elemSize Try.prog 39 = some 1 := by kernel_rfl
theorem es_50 : elemSize Try.prog 50 = some 2 := by kernel_rfl
theorem fd_34_0 : fieldOf Try.prog 34 0 = some (0, 1, false) := by kernel_rfl
theorem fd_34_1 : fieldOf Try.prog 34 1 = some (1, 1, false) := by kernel_rfl
theorem fd_34_2 : fieldOf Try.prog 34 2 = some (2, 1, false) := by kernel_rfl
theorem fd_52_0 : fieldOf Try.prog 52 0 = some (0, 1, false) := by kernel_rfl
theorem fd_52_1 : fieldOf Try.prog 52 1 = some (1, 1, false) := by kernel_rfl
theorem fd_52_2 : fieldOf Try.prog 52 2 = some (2, 1, false) := by kernel_rfl
theorem fd_54_0 : fieldOf Try.prog 54 0 = some (0, 1, false) := by kernel_rfl
theorem fd_54_1 : fieldOf Try.prog 54 1 = some (1, 1, false) := by kernel_rfl
theorem mo_56 : mapOf Try.prog 56 = some (3, 52) := by kernel_rfl
theorem sl_29 : isSl Try.prog 29 = true := by kernel_rfl
theorem sl_31 : isSl Try.prog 31 = true := by kernel_rfl
theorem sl_39 : isSl Try.prog 39 = true := by kernel_rfl
theorem sl_50 : isSl Try.prog 50 = true := by kernel_rfl
theorem st_34 : structPlaces Try.prog 34 = some [(0, 1), (1, 1), (2, 1)] := by kernel_rfl
theorem st_52 : structPlaces Try.prog 52 = some [(0, 1), (1, 1), (2, 1)] := by kernel_rfl
theorem st_54 : structPlaces Try.prog 54 = some [(0, 1), (1, 1)] := by kernel_rfl
theorem ty_3 : tyOf Try.prog 3 = some (1, false) := by kernel_rfl
theorem ty_34 : tyOf Try.prog 34 = some (3, true) := by kernel_rfl
theorem ty_50 : tyOf Try.prog 50 = some (1, false) := by kernel_rfl
theorem ty_52 : tyOf Try.prog 52 = some (3, true) := by kernel_rfl
theorem ty_54 : tyOf Try.prog 54 = some (2, true) := by kernel_rfl
theorem us_29 : Try.prog.underlying 29 = some (.slice 52) := by kernel_rfl
theorem us_31 : Try.prog.underlying 31 = some (.slice 34) := by kernel_rfl
theorem us_39 : Try.prog.underlying 39 = some (.slice 3) := by kernel_rfl
theorem us_50 : Try.prog.underlying 50 = some (.slice 54) := by kernel_rfl
theorem ze_3 : zeroOf Try.prog 3 = some (.int .i64 0) := by kernel_rfl
theorem ze_34 : zeroOf Try.prog 34 = some (.agg #[.int .i64 0, .int .i64 0, .int .i64 0]) := by kernel_rfl
theorem ze_52 : zeroOf Try.prog 52 = some (.agg #[.int .i64 0, .int .i64 0, .slice none 0 0]) := by kernel_rfl
theorem ze_54 : zeroOf Try.prog 54 = some (.agg #[.int .i64 0, .int .i64 0]) := by kernel_rfl
end A
end Go.Proofs.Ytmkphhjlmhhokaa
