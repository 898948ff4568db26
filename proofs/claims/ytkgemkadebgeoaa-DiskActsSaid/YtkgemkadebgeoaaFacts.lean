/- What the program's types are, each asked of the loaded program. -/
import Derived.Test.YtkgemkadebgeoaaAbs20
import Derived.Test.YtkgemkadebgeoaaProg
import Derived.KernelRfl
namespace Go.Proofs.Ytkgemkadebgeoaa
namespace A
theorem bo_4 : isBoolT Try.prog 4 = true := by kernel_rfl
theorem el_103 : elemOf Try.prog 103 = some (3, 1, 8) := by kernel_rfl
theorem el_48 : elemOf Try.prog 48 = some (5, 1, 1) := by kernel_rfl
theorem el_81 : elemOf Try.prog 81 = some (48, 1, 24) := by kernel_rfl
theorem es_103 : elemSize Try.prog 103 = some 1 := by kernel_rfl
theorem es_48 : elemSize Try.prog 48 = some 1 := by kernel_rfl
theorem es_74 : elemSize Try.prog 74 = some 5 := by kernel_rfl
theorem es_81 : elemSize Try.prog 81 = some 1 := by kernel_rfl
theorem es_87 : elemSize Try.prog 87 = some 2 := by kernel_rfl
theorem fd_101_0 : fieldOf Try.prog 101 0 = some (0, 1, false) := by kernel_rfl
theorem fd_101_1 : fieldOf Try.prog 101 1 = some (1, 1, false) := by kernel_rfl
theorem fd_109_0 : fieldOf Try.prog 109 0 = some (0, 1, false) := by kernel_rfl
theorem fd_109_1 : fieldOf Try.prog 109 1 = some (1, 1, false) := by kernel_rfl
theorem fd_109_2 : fieldOf Try.prog 109 2 = some (2, 1, false) := by kernel_rfl
theorem fd_109_3 : fieldOf Try.prog 109 3 = some (3, 1, false) := by kernel_rfl
theorem fd_109_4 : fieldOf Try.prog 109 4 = some (4, 1, false) := by kernel_rfl
theorem fd_83_0 : fieldOf Try.prog 83 0 = some (0, 1, false) := by kernel_rfl
theorem fd_83_1 : fieldOf Try.prog 83 1 = some (1, 1, false) := by kernel_rfl
theorem fd_83_2 : fieldOf Try.prog 83 2 = some (2, 1, false) := by kernel_rfl
theorem fd_83_3 : fieldOf Try.prog 83 3 = some (3, 1, false) := by kernel_rfl
theorem fd_89_0 : fieldOf Try.prog 89 0 = some (0, 1, false) := by kernel_rfl
theorem fd_89_1 : fieldOf Try.prog 89 1 = some (1, 1, false) := by kernel_rfl
theorem fd_89_2 : fieldOf Try.prog 89 2 = some (2, 1, false) := by kernel_rfl
theorem fd_89_3 : fieldOf Try.prog 89 3 = some (3, 1, false) := by kernel_rfl
theorem fd_89_4 : fieldOf Try.prog 89 4 = some (4, 1, false) := by kernel_rfl
theorem mo_107 : mapOf Try.prog 107 = some (3, 48) := by kernel_rfl
theorem pt_78 : isPtrT Try.prog 78 = true := by kernel_rfl
theorem sl_103 : isSl Try.prog 103 = true := by kernel_rfl
theorem sl_48 : isSl Try.prog 48 = true := by kernel_rfl
theorem sl_74 : isSl Try.prog 74 = true := by kernel_rfl
theorem sl_81 : isSl Try.prog 81 = true := by kernel_rfl
theorem sl_87 : isSl Try.prog 87 = true := by kernel_rfl
theorem st_109 : structPlaces Try.prog 109 = some [(0, 1), (1, 1), (2, 1), (3, 1), (4, 1)] := by kernel_rfl
theorem st_83 : structPlaces Try.prog 83 = some [(0, 1), (1, 1), (2, 1), (3, 1)] := by kernel_rfl
theorem ty_103 : tyOf Try.prog 103 = some (1, false) := by kernel_rfl
theorem ty_107 : tyOf Try.prog 107 = some (1, false) := by kernel_rfl
theorem ty_3 : tyOf Try.prog 3 = some (1, false) := by kernel_rfl
theorem ty_4 : tyOf Try.prog 4 = some (1, false) := by kernel_rfl
theorem ty_48 : tyOf Try.prog 48 = some (1, false) := by kernel_rfl
theorem ty_5 : tyOf Try.prog 5 = some (1, false) := by kernel_rfl
theorem ty_81 : tyOf Try.prog 81 = some (1, false) := by kernel_rfl
theorem ty_83 : tyOf Try.prog 83 = some (4, true) := by kernel_rfl
theorem ty_87 : tyOf Try.prog 87 = some (1, false) := by kernel_rfl
theorem ty_89 : tyOf Try.prog 89 = some (5, true) := by kernel_rfl
theorem um_107 : Try.prog.underlying 107 = some (.map 3 48) := by kernel_rfl
theorem us_103 : Try.prog.underlying 103 = some (.slice 3) := by kernel_rfl
theorem us_48 : Try.prog.underlying 48 = some (.slice 5) := by kernel_rfl
theorem us_81 : Try.prog.underlying 81 = some (.slice 48) := by kernel_rfl
theorem ze_109 : zeroOf Try.prog 109 = some (.agg #[.int .i64 0, .map none, .map none, .int .i64 0, .bool false]) := by kernel_rfl
theorem ze_3 : zeroOf Try.prog 3 = some (.int .i64 0) := by kernel_rfl
theorem ze_48 : zeroOf Try.prog 48 = some (.slice none 0 0) := by kernel_rfl
theorem ze_5 : zeroOf Try.prog 5 = some (.int .u8 0) := by kernel_rfl
theorem ze_83 : zeroOf Try.prog 83 = some (.agg #[.slice none 0 0, .slice none 0 0, .int .i64 0, .bool false]) := by kernel_rfl
end A
end Go.Proofs.Ytkgemkadebgeoaa
