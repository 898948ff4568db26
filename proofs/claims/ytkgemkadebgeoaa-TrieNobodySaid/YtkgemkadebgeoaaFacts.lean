/- What the program's types are, each asked of the loaded program. -/
import Derived.Test.YtkgemkadebgeoaaAbs16
import Derived.Test.YtkgemkadebgeoaaProg
import Derived.KernelRfl
namespace Go.Proofs.Ytkgemkadebgeoaa
namespace A
theorem ar_127 : arrOf Try.prog 127 = some (2, 1) := by kernel_rfl
theorem bo_4 : isBoolT Try.prog 4 = true := by kernel_rfl
theorem el_26 : elemOf Try.prog 26 = some (31, 3, 24) := by kernel_rfl
theorem ep_127 : eqPlan Try.prog 127 = some (2, [(0, .p), (1, .p)]) := by kernel_rfl
theorem ep_31 : eqPlan Try.prog 31 = some (3, [(0, .i), (1, .i), (2, .i)]) := by kernel_rfl
theorem eq_29 : eqType Try.prog 29 = some [(0, .i), (1, .i)] := by kernel_rfl
theorem es_22 : elemSize Try.prog 22 = some 5 := by kernel_rfl
theorem es_26 : elemSize Try.prog 26 = some 3 := by kernel_rfl
theorem es_48 : elemSize Try.prog 48 = some 1 := by kernel_rfl
theorem fd_129_0 : fieldOf Try.prog 129 0 = some (0, 1, false) := by kernel_rfl
theorem fd_129_1 : fieldOf Try.prog 129 1 = some (1, 2, true) := by kernel_rfl
theorem fd_29_0 : fieldOf Try.prog 29 0 = some (0, 1, false) := by kernel_rfl
theorem fd_29_1 : fieldOf Try.prog 29 1 = some (1, 1, false) := by kernel_rfl
theorem fd_31_0 : fieldOf Try.prog 31 0 = some (0, 2, true) := by kernel_rfl
theorem fd_31_1 : fieldOf Try.prog 31 1 = some (2, 1, false) := by kernel_rfl
theorem fd_33_0 : fieldOf Try.prog 33 0 = some (0, 1, false) := by kernel_rfl
theorem fd_33_1 : fieldOf Try.prog 33 1 = some (1, 3, true) := by kernel_rfl
theorem fd_33_2 : fieldOf Try.prog 33 2 = some (4, 1, false) := by kernel_rfl
theorem fd_54_0 : fieldOf Try.prog 54 0 = some (0, 1, false) := by kernel_rfl
theorem fd_54_1 : fieldOf Try.prog 54 1 = some (1, 1, false) := by kernel_rfl
theorem ik_27 : intKindOf Try.prog 27 = some .u32 := by kernel_rfl
theorem ik_3 : intKindOf Try.prog 3 = some .i64 := by kernel_rfl
theorem ik_5 : intKindOf Try.prog 5 = some .u8 := by kernel_rfl
theorem ik_50 : intKindOf Try.prog 50 = some .u16 := by kernel_rfl
theorem ik_51 : intKindOf Try.prog 51 = some .u64 := by kernel_rfl
theorem pt_24 : isPtrT Try.prog 24 = true := by kernel_rfl
theorem pt_52 : isPtrT Try.prog 52 = true := by kernel_rfl
theorem sl_22 : isSl Try.prog 22 = true := by kernel_rfl
theorem sl_26 : isSl Try.prog 26 = true := by kernel_rfl
theorem sl_48 : isSl Try.prog 48 = true := by kernel_rfl
theorem st_129 : structPlaces Try.prog 129 = some [(0, 1), (1, 2)] := by kernel_rfl
theorem st_29 : structPlaces Try.prog 29 = some [(0, 1), (1, 1)] := by kernel_rfl
theorem st_31 : structPlaces Try.prog 31 = some [(0, 2), (2, 1)] := by kernel_rfl
theorem st_54 : structPlaces Try.prog 54 = some [(0, 1), (1, 1)] := by kernel_rfl
theorem ty_127 : tyOf Try.prog 127 = some (2, true) := by kernel_rfl
theorem ty_27 : tyOf Try.prog 27 = some (1, false) := by kernel_rfl
theorem ty_29 : tyOf Try.prog 29 = some (2, true) := by kernel_rfl
theorem ty_3 : tyOf Try.prog 3 = some (1, false) := by kernel_rfl
theorem ty_31 : tyOf Try.prog 31 = some (3, true) := by kernel_rfl
theorem ty_4 : tyOf Try.prog 4 = some (1, false) := by kernel_rfl
theorem ty_5 : tyOf Try.prog 5 = some (1, false) := by kernel_rfl
theorem ty_52 : tyOf Try.prog 52 = some (1, false) := by kernel_rfl
theorem ua_127 : Try.prog.underlying 127 = some (.array 2 52) := by kernel_rfl
theorem us_26 : Try.prog.underlying 26 = some (.slice 31) := by kernel_rfl
theorem ze_127 : zeroOf Try.prog 127 = some (.agg #[.pointer none, .pointer none]) := by kernel_rfl
theorem ze_129 : zeroOf Try.prog 129 = some (.agg #[.int .i64 0, .pointer none, .pointer none]) := by kernel_rfl
theorem ze_29 : zeroOf Try.prog 29 = some (.agg #[.int .u32 0, .int .i64 0]) := by kernel_rfl
theorem ze_31 : zeroOf Try.prog 31 = some (.agg #[.int .u32 0, .int .i64 0, .int .i64 0]) := by kernel_rfl
theorem ze_54 : zeroOf Try.prog 54 = some (.agg #[.pointer none, .int .i64 0]) := by kernel_rfl
end A
end Go.Proofs.Ytkgemkadebgeoaa
