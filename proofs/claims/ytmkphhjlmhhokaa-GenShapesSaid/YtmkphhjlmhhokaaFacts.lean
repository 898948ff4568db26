/- What the program's types are, each asked of the loaded program. -/
import Derived.Test.YtmkphhjlmhhokaaAbs15
import Derived.Test.YtmkphhjlmhhokaaProg
import Derived.KernelRfl
namespace Go.Proofs.Ytmkphhjlmhhokaa
namespace A
theorem ar_22 : arrOf Try.prog 22 = some (2, 1) := by kernel_rfl
theorem el_24 : elemOf Try.prog 24 = some (46, 5, 40) := by kernel_rfl
theorem eq_46 : eqType Try.prog 46 = some [(0, .i), (1, .i), (2, .b), (3, .i), (4, .i)] := by kernel_rfl
theorem es_24 : elemSize Try.prog 24 = some 5 := by kernel_rfl
theorem es_31 : elemSize Try.prog 31 = some 3 := by kernel_rfl
theorem es_39 : elemSize Try.prog 39 = some 1 := by kernel_rfl
theorem es_50 : elemSize Try.prog 50 = some 2 := by kernel_rfl
theorem fd_34_0 : fieldOf Try.prog 34 0 = some (0, 1, false) := by kernel_rfl
theorem fd_34_1 : fieldOf Try.prog 34 1 = some (1, 1, false) := by kernel_rfl
theorem fd_34_2 : fieldOf Try.prog 34 2 = some (2, 1, false) := by kernel_rfl
theorem fd_46_0 : fieldOf Try.prog 46 0 = some (0, 1, false) := by kernel_rfl
theorem fd_46_1 : fieldOf Try.prog 46 1 = some (1, 1, false) := by kernel_rfl
theorem fd_52_0 : fieldOf Try.prog 52 0 = some (0, 1, false) := by kernel_rfl
theorem fd_52_1 : fieldOf Try.prog 52 1 = some (1, 1, false) := by kernel_rfl
theorem fd_52_2 : fieldOf Try.prog 52 2 = some (2, 1, false) := by kernel_rfl
theorem fd_54_0 : fieldOf Try.prog 54 0 = some (0, 1, false) := by kernel_rfl
theorem fd_54_1 : fieldOf Try.prog 54 1 = some (1, 1, false) := by kernel_rfl
theorem ik_3 : intKindOf Try.prog 3 = some .i64 := by kernel_rfl
theorem ik_5 : intKindOf Try.prog 5 = some .u8 := by kernel_rfl
theorem sl_24 : isSl Try.prog 24 = true := by kernel_rfl
theorem sl_31 : isSl Try.prog 31 = true := by kernel_rfl
theorem sl_39 : isSl Try.prog 39 = true := by kernel_rfl
theorem sl_50 : isSl Try.prog 50 = true := by kernel_rfl
theorem st_46 : structPlaces Try.prog 46 = some [(0, 1), (1, 1), (2, 1), (3, 1), (4, 1)] := by kernel_rfl
theorem ty_24 : tyOf Try.prog 24 = some (1, false) := by kernel_rfl
theorem ty_3 : tyOf Try.prog 3 = some (1, false) := by kernel_rfl
theorem ty_34 : tyOf Try.prog 34 = some (3, true) := by kernel_rfl
theorem ty_46 : tyOf Try.prog 46 = some (5, true) := by kernel_rfl
theorem ty_50 : tyOf Try.prog 50 = some (1, false) := by kernel_rfl
theorem ty_54 : tyOf Try.prog 54 = some (2, true) := by kernel_rfl
theorem ty_69 : tyOf Try.prog 69 = some (1, false) := by kernel_rfl
theorem us_24 : Try.prog.underlying 24 = some (.slice 46) := by kernel_rfl
theorem us_39 : Try.prog.underlying 39 = some (.slice 3) := by kernel_rfl
theorem ze_24 : zeroOf Try.prog 24 = some (.slice none 0 0) := by kernel_rfl
theorem ze_3 : zeroOf Try.prog 3 = some (.int .i64 0) := by kernel_rfl
theorem ze_34 : zeroOf Try.prog 34 = some (.agg #[.int .i64 0, .int .i64 0, .int .i64 0]) := by kernel_rfl
theorem ze_46 : zeroOf Try.prog 46 = some (.agg #[.int .i64 0, .int .i64 0, .bool false, .int .i64 0, .int .i64 0]) := by kernel_rfl
theorem ze_54 : zeroOf Try.prog 54 = some (.agg #[.int .i64 0, .int .i64 0]) := by kernel_rfl
end A
end Go.Proofs.Ytmkphhjlmhhokaa
