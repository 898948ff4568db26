/- Texts that ConfigTextsCard's proof rests on, part 15. -/
import Derived.KernelRfl
import Derived.Test.YtgdfppjapnpcgaaDoorProg
import Derived.Test.YtgdfppjapnpcgaaDoorS13ConfigTextsCard
set_option linter.unusedVariables false
set_option linter.unusedSimpArgs false
namespace Go.Proofs.YtgdfppjapnpcgaaDoor
namespace A
open Go.Lib (itoa join)
def layTrim_ren : Go.Shelf.Ren := ⟨fun | 102 => 12 | 209 => 27 | 207 => 42 | n => n, fun | 9 => 9 | 4 => 4 | 3 => 3 | n => n, fun | n => n⟩
theorem layTrim : Go.Proofs.Lays.n102 Tryd.prog layTrim_ren := {
 mixed := by kernel_rfl,
 f102 := Tryd.func12.trans (congrArg some (by kernel_rfl)),
 f207 := Tryd.func42.trans (congrArg some (by kernel_rfl)),
 f209 := Tryd.func27.trans (congrArg some (by kernel_rfl)),
 t3 := Tryd.underlying3,
 a3 := Tryd.isAgg3,
 z3 := Tryd.sizeOf3,
 v3 := Tryd.zeroValue3,
 t4 := Tryd.underlying4,
 a4 := Tryd.isAgg4,
 z4 := Tryd.sizeOf4,
 v4 := Tryd.zeroValue4,
 t9 := Tryd.underlying9,
 a9 := Tryd.isAgg9,
 z9 := Tryd.sizeOf9,
 v9 := Tryd.zeroValue9 }
def layCutp_ren : Go.Shelf.Ren := ⟨fun | 103 => 28 | 210 => 43 | 206 => 56 | n => n, fun | 9 => 9 | 4 => 4 | 24 => 55 | 3 => 3 | n => n, fun | n => n⟩
theorem layCutp : Go.Proofs.Lays.n103 Tryd.prog layCutp_ren := {
 mixed := by kernel_rfl,
 f103 := Tryd.func28.trans (congrArg some (by kernel_rfl)),
 f206 := Tryd.func56.trans (congrArg some (by kernel_rfl)),
 f210 := Tryd.func43.trans (congrArg some (by kernel_rfl)),
 t3 := Tryd.underlying3,
 a3 := Tryd.isAgg3,
 z3 := Tryd.sizeOf3,
 v3 := Tryd.zeroValue3,
 t4 := Tryd.underlying4,
 a4 := Tryd.isAgg4,
 z4 := Tryd.sizeOf4,
 v4 := Tryd.zeroValue4,
 t9 := Tryd.underlying9,
 a9 := Tryd.isAgg9,
 z9 := Tryd.sizeOf9,
 v9 := Tryd.zeroValue9,
 t24 := Tryd.underlying55,
 a24 := Tryd.isAgg55,
 z24 := Tryd.sizeOf55,
 v24 := Tryd.zeroValue55 }
def laySplit_ren : Go.Shelf.Ren := ⟨fun | 146 => 11 | 221 => 26 | 268 => 39 | 138 => 40 | 143 => 41 | 195 => 52 | 197 => 53 | 218 => 54 | 219 => 55 | 260 => 66 | 217 => 67 | 225 => 68 | 224 => 69 | 267 => 70 | 266 => 81 | 314 => 82 | n => n, fun | 9 => 9 | 31 => 39 | 3 => 3 | 4 => 4 | 0 => 0 | 105 => 83 | 21 => 21 | 5 => 5 | 46 => 97 | 119 => 109 | 139 => 112 | 138 => 111 | 146 => 113 | 51 => 106 | n => n, fun | 1 => 0 | 3 => 2 | 4 => 3 | n => n⟩
theorem laySplit : Go.Proofs.Lays.n146 Tryd.prog laySplit_ren := {
 mixed := by kernel_rfl,
 f138 := Tryd.func40.trans (congrArg some (by kernel_rfl)),
 f143 := Tryd.func41.trans (congrArg some (by kernel_rfl)),
 f146 := Tryd.func11.trans (congrArg some (by kernel_rfl)),
 f195 := Tryd.func52.trans (congrArg some (by kernel_rfl)),
 f197 := Tryd.func53.trans (congrArg some (by kernel_rfl)),
 f217 := Tryd.func67.trans (congrArg some (by kernel_rfl)),
 f218 := Tryd.func54.trans (congrArg some (by kernel_rfl)),
 f219 := Tryd.func55.trans (congrArg some (by kernel_rfl)),
 f221 := Tryd.func26.trans (congrArg some (by kernel_rfl)),
 f224 := Tryd.func69.trans (congrArg some (by kernel_rfl)),
 f225 := Tryd.func68.trans (congrArg some (by kernel_rfl)),
 f260 := Tryd.func66.trans (congrArg some (by kernel_rfl)),
 f266 := Tryd.func81.trans (congrArg some (by kernel_rfl)),
 f267 := Tryd.func70.trans (congrArg some (by kernel_rfl)),
 f268 := Tryd.func39.trans (congrArg some (by kernel_rfl)),
 f314 := Tryd.func82.trans (congrArg some (by kernel_rfl)),
 t0 := Tryd.underlying0,
 a0 := Tryd.isAgg0,
 z0 := Tryd.sizeOf0,
 v0 := Tryd.zeroValue0,
 t3 := Tryd.underlying3,
 a3 := Tryd.isAgg3,
 z3 := Tryd.sizeOf3,
 v3 := Tryd.zeroValue3,
 t4 := Tryd.underlying4,
 a4 := Tryd.isAgg4,
 z4 := Tryd.sizeOf4,
 v4 := Tryd.zeroValue4,
 t5 := Tryd.underlying5,
 a5 := Tryd.isAgg5,
 z5 := Tryd.sizeOf5,
 v5 := Tryd.zeroValue5,
 t9 := Tryd.underlying9,
 a9 := Tryd.isAgg9,
 z9 := Tryd.sizeOf9,
 v9 := Tryd.zeroValue9,
 t21 := Tryd.underlying21,
 a21 := Tryd.isAgg21,
 z21 := Tryd.sizeOf21,
 v21 := Tryd.zeroValue21,
 t31 := Tryd.underlying39,
 a31 := Tryd.isAgg39,
 z31 := Tryd.sizeOf39,
 v31 := Tryd.zeroValue39,
 t46 := Tryd.underlying97,
 a46 := Tryd.isAgg97,
 z46 := Tryd.sizeOf97,
 v46 := Tryd.zeroValue97,
 t51 := Tryd.underlying106,
 a51 := Tryd.isAgg106,
 z51 := Tryd.sizeOf106,
 v51 := Tryd.zeroValue106,
 t105 := Tryd.underlying83,
 a105 := Tryd.isAgg83,
 z105 := Tryd.sizeOf83,
 v105 := Tryd.zeroValue83,
 t119 := Tryd.underlying109,
 a119 := Tryd.isAgg109,
 z119 := Tryd.sizeOf109,
 t138 := Tryd.underlying111,
 a138 := Tryd.isAgg111,
 z138 := Tryd.sizeOf111,
 v138 := Tryd.zeroValue111,
 t139 := Tryd.underlying112,
 a139 := Tryd.isAgg112,
 z139 := Tryd.sizeOf112,
 v139 := Tryd.zeroValue112,
 t146 := Tryd.underlying113,
 a146 := Tryd.isAgg113,
 z146 := Tryd.sizeOf113,
 v146 := Tryd.zeroValue113,
 g1 := by kernel_rfl,
 g3 := by kernel_rfl,
 g4 := by kernel_rfl }
def layJoin_ren : Go.Shelf.Ren := ⟨fun | 156 => 22 | 165 => 35 | 166 => 36 | 169 => 37 | 240 => 50 | 241 => 51 | 276 => 64 | 277 => 65 | n => n, fun | 31 => 39 | 9 => 9 | 3 => 3 | 4 => 4 | 0 => 0 | 20 => 20 | 72 => 66 | 76 => 70 | 70 => 63 | 37 => 64 | 75 => 69 | 127 => 82 | 164 => 93 | 5 => 5 | 80 => 72 | n => n, fun | n => n⟩
theorem layJoin : Go.Proofs.Lays.n156 Tryd.prog layJoin_ren := {
 mixed := by kernel_rfl,
 f156 := Tryd.func22.trans (congrArg some (by kernel_rfl)),
 f165 := Tryd.func35.trans (congrArg some (by kernel_rfl)),
 f166 := Tryd.func36.trans (congrArg some (by kernel_rfl)),
 f169 := Tryd.func37.trans (congrArg some (by kernel_rfl)),
 f240 := Tryd.func50.trans (congrArg some (by kernel_rfl)),
 f241 := Tryd.func51.trans (congrArg some (by kernel_rfl)),
 f276 := Tryd.func64.trans (congrArg some (by kernel_rfl)),
 f277 := Tryd.func65.trans (congrArg some (by kernel_rfl)),
 t0 := Tryd.underlying0,
 a0 := Tryd.isAgg0,
 z0 := Tryd.sizeOf0,
 v0 := Tryd.zeroValue0,
 t3 := Tryd.underlying3,
 a3 := Tryd.isAgg3,
 z3 := Tryd.sizeOf3,
 v3 := Tryd.zeroValue3,
 t4 := Tryd.underlying4,
 a4 := Tryd.isAgg4,
 z4 := Tryd.sizeOf4,
 v4 := Tryd.zeroValue4,
 t9 := Tryd.underlying9,
 a9 := Tryd.isAgg9,
 z9 := Tryd.sizeOf9,
 v9 := Tryd.zeroValue9,
 t20 := Tryd.underlying20,
 a20 := Tryd.isAgg20,
 z20 := Tryd.sizeOf20,
 v20 := Tryd.zeroValue20,
 t31 := Tryd.underlying39,
 a31 := Tryd.isAgg39,
 z31 := Tryd.sizeOf39,
 v31 := Tryd.zeroValue39,
 t37 := Tryd.underlying64,
 a37 := Tryd.isAgg64,
 z37 := Tryd.sizeOf64,
 v37 := Tryd.zeroValue64,
 t70 := Tryd.underlying63,
 a70 := Tryd.isAgg63,
 z70 := Tryd.sizeOf63,
 v70 := Tryd.zeroValue63,
 t72 := Tryd.underlying66,
 a72 := Tryd.isAgg66,
 z72 := Tryd.sizeOf66,
 v72 := Tryd.zeroValue66,
 t75 := Tryd.underlying69,
 a75 := Tryd.isAgg69,
 z75 := Tryd.sizeOf69,
 v75 := Tryd.zeroValue69,
 t76 := Tryd.underlying70,
 a76 := Tryd.isAgg70,
 z76 := Tryd.sizeOf70,
 v76 := Tryd.zeroValue70,
 t127 := Tryd.underlying82,
 a127 := Tryd.isAgg82,
 z127 := Tryd.sizeOf82,
 v127 := Tryd.zeroValue82,
 t164 := Tryd.underlying93,
 a164 := Tryd.isAgg93,
 z164 := Tryd.sizeOf93,
 v164 := Tryd.zeroValue93 }
def layItoa_ren : Go.Shelf.Ren := ⟨fun | 171 => 18 | 243 => 33 | 246 => 49 | 283 => 60 | 284 => 61 | 285 => 62 | 286 => 63 | 129 => 77 | 317 => 76 | 318 => 78 | 319 => 79 | 320 => 80 | 337 => 86 | 338 => 87 | n => n, fun | 3 => 3 | 9 => 9 | 2 => 2 | 4 => 4 | 171 => 88 | 0 => 0 | 53 => 74 | 37 => 64 | 5 => 5 | 173 => 91 | 212 => 105 | 51 => 106 | 20 => 20 | 213 => 107 | 46 => 97 | 232 => 127 | 233 => 128 | n => n, fun | 17 => 1 | 18 => 6 | 19 => 7 | n => n⟩
theorem layItoa : Go.Proofs.LaysM.n171 Tryd.prog layItoa_ren := {
 mixed := by kernel_rfl,
 f129 := Tryd.func77.trans (congrArg some (by kernel_rfl)),
 f171 := Tryd.func18.trans (congrArg some (by kernel_rfl)),
 f243 := Tryd.func33.trans (congrArg some (by kernel_rfl)),
 f246 := Tryd.func49.trans (congrArg some (by kernel_rfl)),
 f283 := Tryd.func60.trans (congrArg some (by kernel_rfl)),
 f284 := Tryd.func61.trans (congrArg some (by kernel_rfl)),
 f285 := Tryd.func62.trans (congrArg some (by kernel_rfl)),
 f286 := Tryd.func63.trans (congrArg some (by kernel_rfl)),
 f317 := Tryd.func76.trans (congrArg some (by kernel_rfl)),
 f318 := Tryd.func78.trans (congrArg some (by kernel_rfl)),
 f319 := Tryd.func79.trans (congrArg some (by kernel_rfl)),
 f320 := Tryd.func80.trans (congrArg some (by kernel_rfl)),
 f337 := Tryd.func86.trans (congrArg some (by kernel_rfl)),
 f338 := Tryd.func87.trans (congrArg some (by kernel_rfl)),
 t0 := Tryd.underlying0,
 a0 := Tryd.isAgg0,
 z0 := Tryd.sizeOf0,
 v0 := Tryd.zeroValue0,
 t2 := Tryd.underlying2,
 a2 := Tryd.isAgg2,
 z2 := Tryd.sizeOf2,
 v2 := Tryd.zeroValue2,
 t3 := Tryd.underlying3,
 a3 := Tryd.isAgg3,
 z3 := Tryd.sizeOf3,
 v3 := Tryd.zeroValue3,
 t4 := Tryd.underlying4,
 a4 := Tryd.isAgg4,
 z4 := Tryd.sizeOf4,
 v4 := Tryd.zeroValue4,
 t5 := Tryd.underlying5,
 a5 := Tryd.isAgg5,
 z5 := Tryd.sizeOf5,
 v5 := Tryd.zeroValue5,
 t9 := Tryd.underlying9,
 a9 := Tryd.isAgg9,
 z9 := Tryd.sizeOf9,
 v9 := Tryd.zeroValue9,
 t20 := Tryd.underlying20,
 a20 := Tryd.isAgg20,
 z20 := Tryd.sizeOf20,
 v20 := Tryd.zeroValue20,
 t37 := Tryd.underlying64,
 a37 := Tryd.isAgg64,
 z37 := Tryd.sizeOf64,
 v37 := Tryd.zeroValue64,
 t46 := Tryd.underlying97,
 a46 := Tryd.isAgg97,
 z46 := Tryd.sizeOf97,
 v46 := Tryd.zeroValue97,
 t51 := Tryd.underlying106,
 a51 := Tryd.isAgg106,
 z51 := Tryd.sizeOf106,
 v51 := Tryd.zeroValue106,
 t53 := Tryd.underlying74,
 a53 := Tryd.isAgg74,
 z53 := Tryd.sizeOf74,
 v53 := Tryd.zeroValue74,
 t171 := Tryd.underlying88,
 a171 := Tryd.isAgg88,
 z171 := Tryd.sizeOf88,
 v171 := Tryd.zeroValue88,
 t173 := Tryd.underlying91,
 a173 := Tryd.isAgg91,
 z173 := Tryd.sizeOf91,
 v173 := Tryd.zeroValue91,
 t212 := Tryd.underlying105,
 a212 := Tryd.isAgg105,
 z212 := Tryd.sizeOf105,
 v212 := Tryd.zeroValue105,
 t213 := Tryd.underlying107,
 a213 := Tryd.isAgg107,
 z213 := Tryd.sizeOf107,
 t232 := Tryd.underlying127,
 a232 := Tryd.isAgg127,
 z232 := Tryd.sizeOf127,
 v232 := Tryd.zeroValue127,
 t233 := Tryd.underlying128,
 a233 := Tryd.isAgg128,
 z233 := Tryd.sizeOf128,
 v233 := Tryd.zeroValue128,
 g17 := by kernel_rfl,
 g18 := by kernel_rfl,
 g19 := by kernel_rfl,
 i0 := by kernel_rfl,
 i2 := by kernel_rfl,
 i3 := by kernel_rfl,
 i4 := by kernel_rfl,
 i5 := by kernel_rfl,
 i9 := by kernel_rfl,
 i20 := by kernel_rfl,
 i37 := by kernel_rfl,
 i46 := by kernel_rfl,
 i51 := by kernel_rfl,
 i53 := by kernel_rfl,
 i171 := by kernel_rfl,
 i173 := by kernel_rfl,
 i212 := by kernel_rfl,
 i232 := by kernel_rfl,
 i233 := by kernel_rfl,
 m17 := by kernel_rfl,
 m18 := by kernel_rfl,
 m19 := by kernel_rfl }
def layAtoi_ren : Go.Shelf.Ren := ⟨fun | 172 => 44 | 244 => 57 | 245 => 58 | 247 => 71 | 279 => 72 | 280 => 73 | 281 => 74 | 282 => 75 | 287 => 83 | 316 => 84 | 171 => 18 | 205 => 85 | 321 => 88 | 322 => 89 | 243 => 33 | 246 => 49 | 283 => 60 | 284 => 61 | 285 => 62 | 286 => 63 | 129 => 77 | 317 => 76 | 318 => 78 | 319 => 79 | 320 => 80 | 337 => 86 | 338 => 87 | n => n, fun | 9 => 9 | 3 => 3 | 75 => 69 | 76 => 70 | 4 => 4 | 5 => 5 | 167 => 98 | 37 => 64 | 0 => 0 | 85 => 99 | 2 => 2 | 168 => 101 | 53 => 74 | 175 => 115 | 46 => 97 | 210 => 119 | 127 => 82 | 145 => 126 | 143 => 124 | 21 => 21 | 171 => 88 | 173 => 91 | 212 => 105 | 51 => 106 | 20 => 20 | 213 => 107 | 232 => 127 | 233 => 128 | 80 => 72 | n => n, fun | 15 => 4 | 16 => 5 | 17 => 1 | 18 => 6 | 19 => 7 | n => n⟩
theorem layAtoi : Go.Proofs.LaysC.n172 Tryd.prog layAtoi_ren := {
 mixed := by kernel_rfl,
 f129 := Tryd.func77.trans (congrArg some (by kernel_rfl)),
 f171 := Tryd.func18.trans (congrArg some (by kernel_rfl)),
 f172 := Tryd.func44.trans (congrArg some (by kernel_rfl)),
 f205 := Tryd.func85.trans (congrArg some (by kernel_rfl)),
 f243 := Tryd.func33.trans (congrArg some (by kernel_rfl)),
 f244 := Tryd.func57.trans (congrArg some (by kernel_rfl)),
 f245 := Tryd.func58.trans (congrArg some (by kernel_rfl)),
 f246 := Tryd.func49.trans (congrArg some (by kernel_rfl)),
 f247 := Tryd.func71.trans (congrArg some (by kernel_rfl)),
 f279 := Tryd.func72.trans (congrArg some (by kernel_rfl)),
 f280 := Tryd.func73.trans (congrArg some (by kernel_rfl)),
 f281 := Tryd.func74.trans (congrArg some (by kernel_rfl)),
 f282 := Tryd.func75.trans (congrArg some (by kernel_rfl)),
 f283 := Tryd.func60.trans (congrArg some (by kernel_rfl)),
 f284 := Tryd.func61.trans (congrArg some (by kernel_rfl)),
 f285 := Tryd.func62.trans (congrArg some (by kernel_rfl)),
 f286 := Tryd.func63.trans (congrArg some (by kernel_rfl)),
 f287 := Tryd.func83.trans (congrArg some (by kernel_rfl)),
 f316 := Tryd.func84.trans (congrArg some (by kernel_rfl)),
 f317 := Tryd.func76.trans (congrArg some (by kernel_rfl)),
 f318 := Tryd.func78.trans (congrArg some (by kernel_rfl)),
 f319 := Tryd.func79.trans (congrArg some (by kernel_rfl)),
 f320 := Tryd.func80.trans (congrArg some (by kernel_rfl)),
 f321 := Tryd.func88.trans (congrArg some (by kernel_rfl)),
 f322 := Tryd.func89.trans (congrArg some (by kernel_rfl)),
 f337 := Tryd.func86.trans (congrArg some (by kernel_rfl)),
 f338 := Tryd.func87.trans (congrArg some (by kernel_rfl)),
 t0 := Tryd.underlying0,
 a0 := Tryd.isAgg0,
 z0 := Tryd.sizeOf0,
 v0 := Tryd.zeroValue0,
 t2 := Tryd.underlying2,
 a2 := Tryd.isAgg2,
 z2 := Tryd.sizeOf2,
 v2 := Tryd.zeroValue2,
 t3 := Tryd.underlying3,
 a3 := Tryd.isAgg3,
 z3 := Tryd.sizeOf3,
 v3 := Tryd.zeroValue3,
 t4 := Tryd.underlying4,
 a4 := Tryd.isAgg4,
 z4 := Tryd.sizeOf4,
 v4 := Tryd.zeroValue4,
 t5 := Tryd.underlying5,
 a5 := Tryd.isAgg5,
 z5 := Tryd.sizeOf5,
 v5 := Tryd.zeroValue5,
 t9 := Tryd.underlying9,
 a9 := Tryd.isAgg9,
 z9 := Tryd.sizeOf9,
 v9 := Tryd.zeroValue9,
 t20 := Tryd.underlying20,
 a20 := Tryd.isAgg20,
 z20 := Tryd.sizeOf20,
 v20 := Tryd.zeroValue20,
 t21 := Tryd.underlying21,
 a21 := Tryd.isAgg21,
 z21 := Tryd.sizeOf21,
 v21 := Tryd.zeroValue21,
 t37 := Tryd.underlying64,
 a37 := Tryd.isAgg64,
 z37 := Tryd.sizeOf64,
 v37 := Tryd.zeroValue64,
 t46 := Tryd.underlying97,
 a46 := Tryd.isAgg97,
 z46 := Tryd.sizeOf97,
 v46 := Tryd.zeroValue97,
 t51 := Tryd.underlying106,
 a51 := Tryd.isAgg106,
 z51 := Tryd.sizeOf106,
 v51 := Tryd.zeroValue106,
 t53 := Tryd.underlying74,
 a53 := Tryd.isAgg74,
 z53 := Tryd.sizeOf74,
 v53 := Tryd.zeroValue74,
 t75 := Tryd.underlying69,
 a75 := Tryd.isAgg69,
 z75 := Tryd.sizeOf69,
 v75 := Tryd.zeroValue69,
 t76 := Tryd.underlying70,
 a76 := Tryd.isAgg70,
 z76 := Tryd.sizeOf70,
 v76 := Tryd.zeroValue70,
 t85 := Tryd.underlying99,
 a85 := Tryd.isAgg99,
 z85 := Tryd.sizeOf99,
 v85 := Tryd.zeroValue99,
 t127 := Tryd.underlying82,
 a127 := Tryd.isAgg82,
 z127 := Tryd.sizeOf82,
 v127 := Tryd.zeroValue82,
 t143 := Tryd.underlying124,
 a143 := Tryd.isAgg124,
 z143 := Tryd.sizeOf124,
 v143 := Tryd.zeroValue124,
 t145 := Tryd.underlying126,
 a145 := Tryd.isAgg126,
 z145 := Tryd.sizeOf126,
 v145 := Tryd.zeroValue126,
 t167 := Tryd.underlying98,
 a167 := Tryd.isAgg98,
 z167 := Tryd.sizeOf98,
 v167 := Tryd.zeroValue98,
 t168 := Tryd.underlying101,
 a168 := Tryd.isAgg101,
 z168 := Tryd.sizeOf101,
 v168 := Tryd.zeroValue101,
 t171 := Tryd.underlying88,
 a171 := Tryd.isAgg88,
 z171 := Tryd.sizeOf88,
 v171 := Tryd.zeroValue88,
 t173 := Tryd.underlying91,
 a173 := Tryd.isAgg91,
 z173 := Tryd.sizeOf91,
 v173 := Tryd.zeroValue91,
 t175 := Tryd.underlying115,
 a175 := Tryd.isAgg115,
 z175 := Tryd.sizeOf115,
 v175 := Tryd.zeroValue115,
 t210 := Tryd.underlying119,
 a210 := Tryd.isAgg119,
 z210 := Tryd.sizeOf119,
 v210 := Tryd.zeroValue119,
 t212 := Tryd.underlying105,
 a212 := Tryd.isAgg105,
 z212 := Tryd.sizeOf105,
 v212 := Tryd.zeroValue105,
 t213 := Tryd.underlying107,
 a213 := Tryd.isAgg107,
 z213 := Tryd.sizeOf107,
 t232 := Tryd.underlying127,
 a232 := Tryd.isAgg127,
 z232 := Tryd.sizeOf127,
 v232 := Tryd.zeroValue127,
 t233 := Tryd.underlying128,
 a233 := Tryd.isAgg128,
 z233 := Tryd.sizeOf128,
 v233 := Tryd.zeroValue128,
 g15 := by kernel_rfl,
 g16 := by kernel_rfl,
 g17 := by kernel_rfl,
 g18 := by kernel_rfl,
 g19 := by kernel_rfl,
 t80 := Tryd.underlying72,
 a80 := Tryd.isAgg72,
 z80 := Tryd.sizeOf72,
 v80 := Tryd.zeroValue72,
 i0 := by kernel_rfl,
 i2 := by kernel_rfl,
 i3 := by kernel_rfl,
 i4 := by kernel_rfl,
 i5 := by kernel_rfl,
 i9 := by kernel_rfl,
 i20 := by kernel_rfl,
 i21 := by kernel_rfl,
 i37 := by kernel_rfl,
 i46 := by kernel_rfl,
 i51 := by kernel_rfl,
 i53 := by kernel_rfl,
 i75 := by kernel_rfl,
 i76 := by kernel_rfl,
 i80 := by kernel_rfl,
 i85 := by kernel_rfl,
 i127 := by kernel_rfl,
 i143 := by kernel_rfl,
 i145 := by kernel_rfl,
 i167 := by kernel_rfl,
 i168 := by kernel_rfl,
 i171 := by kernel_rfl,
 i173 := by kernel_rfl,
 i175 := by kernel_rfl,
 i210 := by kernel_rfl,
 i212 := by kernel_rfl,
 i232 := by kernel_rfl,
 i233 := by kernel_rfl,
 m15 := by kernel_rfl,
 m16 := by kernel_rfl,
 m17 := by kernel_rfl,
 m18 := by kernel_rfl,
 m19 := by kernel_rfl,
 c0 := by kernel_rfl,
 c2 := by kernel_rfl,
 c3 := by kernel_rfl,
 c4 := by kernel_rfl,
 c5 := by kernel_rfl,
 c9 := by kernel_rfl,
 c20 := by kernel_rfl,
 c21 := by kernel_rfl,
 c37 := by kernel_rfl,
 c46 := by kernel_rfl,
 c51 := by kernel_rfl,
 c53 := by kernel_rfl,
 c75 := by kernel_rfl,
 c76 := by kernel_rfl,
 c80 := by kernel_rfl,
 c85 := by kernel_rfl,
 c127 := by kernel_rfl,
 c143 := by kernel_rfl,
 c145 := by kernel_rfl,
 c167 := by kernel_rfl,
 c168 := by kernel_rfl,
 c171 := by kernel_rfl,
 c173 := by kernel_rfl,
 c175 := by kernel_rfl,
 c210 := by kernel_rfl,
 c212 := by kernel_rfl,
 c213 := by kernel_rfl,
 c232 := by kernel_rfl,
 c233 := by kernel_rfl }
theorem hb_trim : HasBody Tryd.prog 12 := ⟨_, Tryd.func12, by kernel_rfl, rfl⟩
theorem hb_cutp : HasBody Tryd.prog 28 := ⟨_, Tryd.func28, by kernel_rfl, rfl⟩
theorem hb_split : HasBody Tryd.prog 11 := ⟨_, Tryd.func11, by kernel_rfl, rfl⟩
theorem hb_join : HasBody Tryd.prog 22 := ⟨_, Tryd.func22, by kernel_rfl, rfl⟩
theorem hb_itoa : HasBody Tryd.prog 18 := ⟨_, Tryd.func18, by kernel_rfl, rfl⟩
theorem hb_atoi : HasBody Tryd.prog 44 := ⟨_, Tryd.func44, by kernel_rfl, rfl⟩
/-- What lies in the package-level variables that strings' functions read. -/
structure Gl where
 m : Int
 tm : TypeId
 zm : Nat × Nat
 tp : TypeId
 zp : Nat × Nat
 es : Value
 ts : TypeId
 zs : Nat × Nat
 er : Value
 tr : TypeId
 zr : Nat × Nat
 hs : es = .nilIface ∨ ∃ te pe, es = .iface te pe
 hr : er = .nilIface ∨ ∃ te pe, er = .iface te pe
def powO (t : TypeId) (z : Nat × Nat) : Obj := .cells (Go.Lib.pow10Tab.map fun z => Value.int .u64 z).toArray t z
theorem powO_is (t : TypeId) (z : Nat × Nat) (w : World) (h : w.heap[1]? = some (powO t z)) : Go.Lib.TabIs Tryd.prog w "internal/strconv.uint64pow10" .u64 Go.Lib.pow10Tab := by
 have hg : Tryd.prog.globalNamed "internal/strconv.uint64pow10" = some 1 := by kernel_rfl
 unfold Go.Lib.TabIs World.var?
 rw [hg]
 simp only [Option.bind_some]
 rw [h]
 rfl
def strC (x : SB) : List AV := [strA x]
theorem str_Trim {s p : SB} (hs : s.length ≤ 9223372036854775807) : Triple Tryd.prog 12 [strA s, strA p] [] (Is (strA (Go.Lib.trimSuffix s p)) []) := triple_trimSuffix layTrim rfl hb_trim s p hs
theorem str_CutP {s p : SB} : Triple Tryd.prog 28 [strA s, strA p] [] (Is (.tup [strA (Go.Lib.trimPrefix s p), .v (.bool (Go.Lib.hasPrefix s p))]) []) := triple_cutPrefix layCutp rfl hb_cutp s p
theorem str_Itoa {n : Int} (G : Gl) (h0 : -9223372036854775808 ≤ n) (h1 : n ≤ 9223372036854775807) : Triple Tryd.prog 18 [.int n] [.know 1 (powO G.tp G.zp)] (Is (strA (Go.Lib.itoa n)) [.know 1 (powO G.tp G.zp)]) := triple_itoa layItoa rfl hb_itoa 1 (powO G.tp G.zp) (powO_is G.tp G.zp) n h0 h1
theorem str_Atoi {s : SB} (G : Gl) (hs : s.length ≤ 281474976710656) : Triple Tryd.prog 44 [strA s] [.know 4 (.cells #[G.es] G.ts G.zs), .know 5 (.cells #[G.er] G.tr G.zr)] (fun r h' => (∃ v, r = .v v ∧ AtoiP s v) ∧ h' = [.know 4 (.cells #[G.es] G.ts G.zs), .know 5 (.cells #[G.er] G.tr G.zr)]) := triple_atoi layAtoi rfl hb_atoi rfl rfl G.hs G.hr s hs
theorem str_SplitO {s sep : SB} (G : Gl) (hs : s.length < 4294967281) (h1 : 1 ≤ sep.length) : Triple Tryd.prog 11 [strA s, strA sep] [.know 0 (.cells #[.int .i64 G.m] G.tm G.zm)] (Own 9 1 ((splitS s sep).map strC) [.know 0 (.cells #[.int .i64 G.m] G.tm G.zm)]) := triple_split laySplit (by kernel_rfl) rfl hb_split rfl rfl s sep hs h1
theorem str_Split {s sep : SB} (G : Gl) (hs : s.length < 4294967281) (h1 : 1 ≤ sep.length) : Triple Tryd.prog 11 [strA s, strA sep] [.know 0 (.cells #[.int .i64 G.m] G.tm G.zm)] (Is (.sl 1 ((splitS s sep).map strC)) [.know 0 (.cells #[.int .i64 G.m] G.tm G.zm)]) := (str_SplitO G hs h1).settle
theorem joinX : Builder.Extra Tryd.prog layJoin_ren where
 sizeBuilder := by kernel_rfl
 liesBuilder := by kernel_rfl
 t5 := laySplit.t5
 a5 := laySplit.a5
 z5 := laySplit.z5
 v5 := laySplit.v5
 infoByte := by kernel_rfl
 cellsByte := by kernel_rfl
 sizeByte := by kernel_rfl
 neB5 := by decide
theorem str_Join {xs : List SB} {sep : SB} (hn : xs.length ≤ 140737488355328) (hl : (Go.Lib.join xs sep).length ≤ 140737488355328) : Triple Tryd.prog 22 [.sl 1 (xs.map strC), strA sep] [] (Is (strA (Go.Lib.join xs sep)) []) := triple_join layJoin joinX rfl hb_join xs sep hn hl
end A
end Go.Proofs.YtgdfppjapnpcgaaDoor
namespace Go.Proofs.YtgdfppjapnpcgaaDoor
namespace A
def idxF {α : Type} (p : α → Bool) : List α → Int
 | [] => -1
 | x :: l => if p x then 0 else if idxF p l < 0 then -1 else idxF p l + 1
theorem idxF_no {α : Type} {p : α → Bool} : ∀ {l : List α}, (∀ x ∈ l, p x = false) → idxF p l = -1 ∧ l.find? p = none
 | [], _ => ⟨rfl, rfl⟩
 | x :: l, h => by
   have h1 := h x (by simp)
   obtain ⟨h2, h3⟩ := idxF_no (l := l) (fun y hy => h y (by simp [hy]))
   simp [idxF, List.find?, h1, h2, h3]
theorem idxF_at {α : Type} {p : α → Bool} : ∀ {l : List α} {i : Nat} {x : α}, (∀ y ∈ l.take i, p y = false) → l[i]? = some x → p x = true → idxF p l = i ∧ l.find? p = some x
 | [], _, _, _, h, _ => by simp at h
 | y :: l, 0, x, _, h, hp => by simp at h; subst h; simp [idxF, List.find?, hp]
 | y :: l, i + 1, x, h, hx, hp => by
   have h1 := h y (by simp)
   obtain ⟨h2, h3⟩ := idxF_at (l := l) (i := i) (fun z hz => h z (by simp [hz])) (by simpa using hx) hp
   simp only [idxF, List.find?, h1, h2, h3, Bool.false_eq_true, if_false]
   rw [if_neg (by omega)]
   refine ⟨by simp, ?_⟩
   first | rfl | trivial
theorem idxF_cases {α : Type} (p : α → Bool) (l : List α) : (idxF p l = -1 ∧ l.find? p = none) ∨ ∃ i x, idxF p l = (i : Nat) ∧ l[i]? = some x ∧ l.find? p = some x := by
 induction l with
 | nil => exact .inl ⟨rfl, rfl⟩
 | cons y l ih =>
   cases hp : p y with
   | true => exact .inr ⟨0, y, by simp [idxF, hp], rfl, by simp [List.find?, hp]⟩
   | false =>
     rcases ih with ⟨h1, h2⟩ | ⟨i, x, h1, h2, h3⟩
     ·exact .inl ⟨by simp [idxF, hp, h1], by simp [List.find?, hp, h2]⟩
     ·refine .inr ⟨i + 1, x, ?_, by simpa using h2, by simp [List.find?, hp, h3]⟩
      simp only [idxF, hp, h1, Bool.false_eq_true, if_false]
      rw [if_neg (by omega)]
      simp
end A
end Go.Proofs.YtgdfppjapnpcgaaDoor
namespace Go.Proofs.YtgdfppjapnpcgaaDoor
namespace A
theorem es_22 : elemSize Tryd.prog 22 = some 5 := by kernel_rfl
theorem es_62 : elemSize Tryd.prog 62 = some 1 := by kernel_rfl
theorem fd_38_0 : fieldOf Tryd.prog 38 0 = some (0, 1, false) := by kernel_rfl
theorem fd_38_1 : fieldOf Tryd.prog 38 1 = some (1, 1, false) := by kernel_rfl
theorem fd_38_3 : fieldOf Tryd.prog 38 3 = some (3, 1, false) := by kernel_rfl
theorem fd_38_4 : fieldOf Tryd.prog 38 4 = some (4, 1, false) := by kernel_rfl
theorem sl_22 : isSl Tryd.prog 22 = true := by kernel_rfl
theorem sl_62 : isSl Tryd.prog 62 = true := by kernel_rfl
theorem ty_3 : tyOf Tryd.prog 3 = some (1, false) := by kernel_rfl
theorem ty_38 : tyOf Tryd.prog 38 = some (5, true) := by kernel_rfl
theorem us_62 : Tryd.prog.underlying 62 = some (.slice 3) := by kernel_rfl
theorem ze_3 : zeroOf Tryd.prog 3 = some (.int .i64 0) := by kernel_rfl
theorem ze_38 : zeroOf Tryd.prog 38 = some (.agg #[.int .i64 0, .int .i64 0, .bool false, .int .i64 0, .int .i64 0]) := by kernel_rfl
structure Wi where
 a : Int
 b : Int
 u : Bool
 ca : Int
 cb : Int
 deriving DecidableEq, Inhabited
def wirC (w : Wi) : List AV := [.int w.a, .int w.b, .v (.bool w.u), .int w.ca, .int w.cb]
def WOk (w : Wi) : Prop := 1 ≤ w.a ∧ w.a < w.b ∧ w.b ≤ 64 ∧ 1 ≤ w.ca ∧ w.ca ≤ 1073741824 ∧ 1 ≤ w.cb ∧ w.cb ≤ 1073741824
instance : DecidablePred WOk := fun w => by unfold WOk; infer_instance
def ltWi (x y : Wi) : Prop := x.a < y.a ∨ x.a = y.a ∧ x.b < y.b
instance (x y : Wi) : Decidable (ltWi x y) := by unfold ltWi; infer_instance
def wiresB (l : List Wi) : Bool := decide ((∀ w ∈ l, WOk w) ∧ l.Pairwise ltWi)
theorem ltWi_trans {x y z : Wi} (h1 : ltWi x y) (h2 : ltWi y z) : ltWi x z := by unfold ltWi at *; omega
/-- A list that is walked in order stays sorted, or shows that it is not. -/
theorem pw_step {α : Type} {r : α → α → Prop} (tr : ∀ a b c, r a b → r b c → r a c) {l : List α} {i : Nat} {x : α} (hx : l[i]? = some x) (hp : (l.take i).Pairwise r) (h : i = 0 ∨ ∃ p, l[i - 1]? = some p ∧ r p x) : (l.take (i + 1)).Pairwise r := by
 rw [take_step hx, List.pairwise_append]
 refine ⟨hp, by simp, fun y hy z hz => ?_⟩
 rw [List.mem_singleton.1 hz]
 rcases h with h | ⟨p, h1, h2⟩
 ·subst h; simp at hy
 ·obtain ⟨k, hk⟩ := List.mem_iff_getElem?.1 hy
  rw [List.getElem?_take] at hk
  split at hk
  ·rename_i hki
   by_cases e : k = i - 1
   ·rw [e, h1] at hk; cases hk; exact h2
   ·obtain ⟨hkl, rfl⟩ := List.getElem?_eq_some_iff.1 hk
    obtain ⟨hil, rfl⟩ := List.getElem?_eq_some_iff.1 h1
    have := List.pairwise_iff_getElem.1 hp k (i - 1) (by rw [List.length_take]; omega) (by rw [List.length_take]; omega) (by omega)
    rw [List.getElem_take, List.getElem_take] at this
    exact tr _ _ _ this h2
  ·cases hk
theorem pw_bad {α : Type} {r : α → α → Prop} {l : List α} {i : Nat} {p x : α} (hp : l[i - 1]? = some p) (hx : l[i]? = some x) (h0 : 0 < i) (h : ¬ r p x) : ¬ l.Pairwise r := fun hw => by
 obtain ⟨hpl, rfl⟩ := List.getElem?_eq_some_iff.1 hp
 obtain ⟨hxl, rfl⟩ := List.getElem?_eq_some_iff.1 hx
 exact h (List.pairwise_iff_getElem.1 hw (i - 1) i hpl hxl (by omega))
theorem wires_bad1 {l : List Wi} {i : Nat} {x : Wi} (hx : l[i]? = some x) (h : ¬ WOk x) : wiresB l = false := decide_eq_false fun e => h (e.1 x (List.mem_of_getElem? hx))
theorem wires_bad2 {l : List Wi} {i : Nat} {p x : Wi} (hp : l[i - 1]? = some p) (hx : l[i]? = some x) (h0 : 0 < i) (h : ¬ ltWi p x) : wiresB l = false := decide_eq_false fun e => pw_bad hp hx h0 h e.2
theorem wires_good {l : List Wi} (h1 : ∀ w ∈ l, WOk w) (h2 : l.Pairwise ltWi) : wiresB l = true := decide_eq_true ⟨h1, h2⟩
theorem wires_spec {l : List Wi} (h : wiresB l = true) : (∀ w ∈ l, WOk w) ∧ l.Pairwise ltWi := of_decide_eq_true h
def cmpI (a b : Int) : Int := if a < b then -1 else if b < a then 1 else 0
def orI : List Int → Int
 | [] => 0
 | a :: l => if a ≠ 0 then a else orI l
theorem orI_drop {xs : List Int} {i : Nat} {a : Int} (h : xs[i]? = some a) : orI (xs.drop i) = if a ≠ 0 then a else orI (xs.drop (i + 1)) := by
 rw [drop_step h]
 rfl
/- cmp.isNaN[int] -/
set_option maxRecDepth 100000 in
set_option maxHeartbeats 400000 in
theorem cmp_isNaN {n : Int} : Triple Tryd.prog 59 [.int n] [] (Is (.v (.bool false)) []) := by
 refine triple_of Tryd.func59 rfl (by kernel_rfl) rfl (by simp) ?_
 refine aSeq ?_
 refine aReg ?_
 refine sp pMa ?_
 refine oNil ?_
 refine aSeq ?_
 refine aReg ?_
 refine sp pM ?_
 refine sp pM ?_
 refine sp pB ?_
 refine sp pMa ?_
 refine oNil ?_
 refine aRet ?_
 refine finIs rfl ?_
 simp [retOf]
/- cmp.Compare[int] -/
set_option maxRecDepth 100000 in
set_option maxHeartbeats 400000 in
theorem cmp_Compare {a b : Int} : Triple Tryd.prog 47 [.int a, .int b] [] (Is (.v (.int .i64 (cmpI a b))) []) := by
 refine triple_of Tryd.func47 rfl (by kernel_rfl) rfl (by simp) ?_
 refine aSeq ?_
 refine aReg ?_
 refine sp pMa ?_
 refine oNil ?_
 refine aSeq ?_
 refine aReg ?_
 refine sp pM ?_
 refine sq ?_
 refine cv rfl rfl rfl (lents_refl _) cmp_isNaN ?_
 refine sp pMa ?_
 refine oNil ?_
 refine aSeq ?_
 refine aReg ?_
 refine sp pM ?_
 refine sq ?_
 refine cv rfl rfl rfl (lents_refl _) cmp_isNaN ?_
 refine sp pMa ?_
 refine oNil ?_
 refine aSeq ?_
 refine aSeq ?_
 refine aReg ?_
 refine sp pM ?_
 refine oNil ?_
 refine aCond rfl (fun c11 => ?_) (fun c11 => ?_)
 ·skip
  refine aSeq ?_
  refine aSeq ?_
  refine aReg ?_
  refine sp pM ?_
  refine oNil ?_
  refine aCond rfl (fun c12 => ?_) (fun c12 => ?_)
  ·skip
   refine aSeq ?_
   refine aReg ?_
   refine sp pMa ?_
   refine oNil ?_
   refine aRet ?_
   refine finIs rfl ?_
   simp_all [retOf, cmpI] <;> omega
  ·skip
   refine aSkip ?_
   refine aSeq ?_
   refine aReg ?_
   refine sp pMa ?_
   refine oNil ?_
   refine aRet ?_
   refine finIs rfl ?_
   simp_all [retOf, cmpI] <;> omega
 ·skip
  refine aSkip ?_
  refine aSeq ?_
  refine aSeq ?_
  refine aReg ?_
  refine sp pM ?_
  refine oNil ?_
  refine aCond rfl (fun c13 => ?_) (fun c13 => ?_)
  ·skip
   refine aSeq ?_
   refine aReg ?_
   refine sp pMa ?_
   refine oNil ?_
   refine aRet ?_
   refine finIs rfl ?_
   simp_all [retOf, cmpI] <;> omega
  ·skip
   refine aSkip ?_
   refine aSeq ?_
   refine aSeq ?_
   refine aReg ?_
   refine sp pM ?_
   refine sp pM ?_
   refine sp pB ?_
   refine oNil ?_
   refine aCondDec rfl (fun c16 => ?_) (fun c16 => ?_)
   ·skip
    refine aSeq ?_
    refine aReg ?_
    refine sp pMa ?_
    refine oNil ?_
    refine aRet ?_
    refine finIs rfl ?_
    simp_all [retOf, cmpI] <;> omega
   ·skip
    refine aSkip ?_
    refine aSeq ?_
    refine aSeq ?_
    refine aReg ?_
    refine sp pM ?_
    refine sp pM ?_
    refine sp pB ?_
    refine oNil ?_
    refine aCondDec rfl (fun c19 => ?_) (fun c19 => ?_)
    ·skip
     refine aSeq ?_
     refine aReg ?_
     refine sp pMa ?_
     refine oNil ?_
     refine aRet ?_
     refine finIs rfl ?_
     simp_all [retOf, cmpI] <;> omega
    ·skip
     refine aSkip ?_
     refine aSeq ?_
     refine aReg ?_
     refine sp pMa ?_
     refine oNil ?_
     refine aRet ?_
     refine finIs rfl ?_
     simp_all [retOf, cmpI] <;> omega
/- cmp.Or[int] -/
set_option maxRecDepth 100000 in
set_option maxHeartbeats 400000 in
theorem cmp_Or (xs : List Int) (hx : xs.length ≤ 1000 := by simp) : Triple Tryd.prog 46 [.sl 1 (xs.map intA)] [] (Is (.v (.int .i64 (orI xs))) []) := by
 refine triple_of Tryd.func46 rfl (by kernel_rfl) rfl (by simp) ?_
 refine aSeq ?_
 refine aReg ?_
 refine sp pMa ?_
 refine oNil ?_
 refine aSeq ?_
 refine aReg ?_
 refine sp pMa ?_
 refine oNil ?_
 refine aSeq ?_
 refine aSeq ?_
 refine aReg ?_
 refine sp pM ?_
 refine sp (by first | exact pLm sl_62 | exact pLs sl_62) ?_
 refine sp pM ?_
 refine oNil ?_
 refine aBlock ?_
 refine loopF (α := Nat) (kept := [(3, _), (6, _), (7, _)]) (fun i => i ≤ xs.length ∧ orI (xs.drop i) = orI xs) (fun i => [(8, .int i)]) (fun i => []) (fun i => xs.length - i) 0 ?_ ⟨gInt rfl (by first | rfl | omega | simp), rfl, rfl, rfl, trivial⟩ (by repeat constructor) ?_
 ·skip
  exact ⟨by omega, rfl⟩
 ·rintro i ⟨hi, ho⟩
  refine aSeq ?_
  refine aReg ?_
  refine sp pB ?_
  refine oNil ?_
  refine aSeq ?_
  refine aCondDec rfl (fun c9 => ?_) (fun c9 => ?_)
  ·skip
   refine aSkip ?_
   refine aSeq ?_
   refine aBlock ?_
   refine aSeq ?_
   refine aReg ?_
   first | refine sp (pIx es_62) ?_ | (refine obtSN 6 8 rfl rfl (by omega) (fun x10 hx10 => ?_); refine sp (pIs es_62 hx10) ?_) | (refine obtS 6 8 rfl rfl (by omega) (by omega) (fun x10 hx10 => ?_); refine sp (pIs es_62 hx10) ?_) | refine sp (pIo es_62) ?_
   refine sr (rS1 ty_3) ?_
   refine sp pMa ?_
   refine oNil ?_
   refine aSeq ?_
   refine aReg ?_
   refine sp pM ?_
   refine sp pM ?_
   refine sp pB ?_
   refine oNil ?_
   refine aCondNe rfl (fun c14 => ?_) (fun c14 => ?_)
   ·skip
    refine aSeq ?_
    refine aReg ?_
    refine sp pM ?_
    refine sp pMa ?_
    refine oNil ?_
    refine aRet ?_
    refine finIs rfl ?_
    show AV.int _ = AV.int _
    congr 2
    first | (rw [← ho, orI_drop hx10, if_pos (by assumption)]; done) | (rw [← ho, List.drop_of_length_le (by omega)]; rfl)
   ·skip
    refine aSkip ?_
    refine aReg ?_
    refine sp pAd ?_
    refine sp pM ?_
    refine oNil ?_
    refine ⟨i + 1, ?_, by (try dsimp only); omega, ⟨gInt rfl (by first | rfl | omega | simp), rfl, rfl, rfl, trivial⟩, _, (by repeat constructor)⟩
    exact ⟨by omega, by rw [← ho, orI_drop hx10]; simp_all⟩
  ·skip
   refine aExit rfl ?_
   refine aSeq ?_
   refine aReg ?_
   refine sp pM ?_
   refine sp pMa ?_
   refine oNil ?_
   refine aRet ?_
   refine finIs rfl ?_
   show AV.int _ = AV.int _
   congr 2
   first | (rw [← ho, orI_drop hx10, if_pos (by assumption)]; done) | (rw [← ho, List.drop_of_length_le (by omega)]; rfl)
theorem cmpI_ne {a b : Int} : cmpI a b ≠ 0 ↔ a ≠ b := by unfold cmpI; split <;> (try split) <;> omega
theorem cmpI_lt {a b : Int} : cmpI a b < 0 ↔ a < b := by unfold cmpI; split <;> (try split) <;> omega
/- live.within -/
set_option maxRecDepth 100000 in
set_option maxHeartbeats 400000 in
theorem live_within {n lo hi : Int} : Triple Tryd.prog 45 [.int n, .int lo, .int hi] [] (Is (.v (.bool (decide (lo ≤ n) && decide (n ≤ hi)))) []) := by
 refine triple_of Tryd.func45 rfl (by kernel_rfl) rfl (by simp) ?_
 refine aSeq ?_
 refine aReg ?_
 refine sp pMa ?_
 refine oNil ?_
 refine aSeq ?_
 refine aReg ?_
 refine sp pM ?_
 refine sp pM ?_
 refine sp pB ?_
 refine sp pM ?_
 refine oSplitDec 10 rfl (fun c10 => ?_) (fun c10 => ?_)
 ·skip
  refine gp pM ?_
  refine gp pM ?_
  refine gp pB ?_
  refine sp pK ?_
  refine sp pMa ?_
  refine oNil ?_
  refine aRet ?_
  refine finIs rfl ?_
  simp_all [retOf]
  all_goals omega
 ·skip
  refine gf ?_
  refine gf ?_
  refine gf ?_
  refine sp pK ?_
  refine sp pMa ?_
  refine oNil ?_
  refine aRet ?_
  refine finIs rfl ?_
  simp_all [retOf]
  all_goals omega
/- waymarkref27.May -/
def ref27_May_r7_T : Bool × List (List Nat × List Nat) := (true, [([], []), ([0], [0]), ([1], [1]), ([2], [2]), ([2], [2]), ([4, 2], [2, 4]), ([3, 5, 2], [2, 3, 5]), ([6, 2], [2, 6]), ([7, 2], [2, 7]), ([2], [2]), ([9, 2], [2, 9]), ([8, 10, 2], [2, 8, 10]), ([11, 2, 2], [2, 11]), ([12], [12]), ([12], [12]), ([14, 12], [12, 14]), ([13, 15, 12], [12, 13, 15]), ([16, 12], [12, 16]), ([17, 12], [12, 17]), ([12], [12]), ([19, 12], [12, 19]), ([18, 20, 12], [12, 18, 20]), ([21, 12, 12], [12, 21]), ([22], [22]), ([22], [22]), ([24, 22], [22, 24]), ([23, 25, 22], [22, 23, 25]), ([26, 22], [22, 26]), ([27, 22], [22, 27]), ([22], [22]), ([29, 22], [22, 29]), ([28, 30, 22], [22, 28, 30]), ([22, 31, 12], [12, 22, 31]), ([12, 32, 2], [2, 12, 32]), ([2, 33], [2, 33])])
def ref27_May_r7_B : List Nat := [0, 1, 3, 7, 7, 23, 63, 127, 255, 7, 519, 2047, 4095, 8191, 8191, 24575, 65535, 131071, 262143, 8191, 532479, 2097151, 4194303, 8388607, 8388607, 25165823, 67108863, 134217727, 268435455, 8388607, 545259519, 2147483647, 4294967295, 8589934591, 17179869183]
theorem ref27_May_r7_t : Go.Proofs.YtgdfppjapnpcgaaDoorW.PrintLast.rtab .any (Go.Proofs.YtgdfppjapnpcgaaDoorW.PrintLast.opsOf Tryd.f23 7) = ref27_May_r7_T := by kernel_rfl
theorem ref27_May_r7_b : Go.Proofs.YtgdfppjapnpcgaaDoorW.PrintLast.waitsOk ref27_May_r7_T.2 ref27_May_r7_B = true := by kernel_rfl
set_option maxRecDepth 100000 in
set_option maxHeartbeats 2000000 in
theorem ref27_May {l : List Wi} (hl : l.length < 9223372036854775807) : Triple Tryd.prog 23 [.sl 5 (l.map wirC)] [] (Is (.v (.bool (wiresB l))) []) := by
 refine triple_of Tryd.func23 rfl (by kernel_rfl) rfl (by simp) ?_
 refine aSeq ?_
 refine aReg ?_
 refine sp pMa ?_
 refine oNil ?_
 refine aSeq ?_
 refine aSeq ?_
 refine aReg ?_
 refine sp pMa ?_
 refine oNil ?_
 refine aBlock ?_
 refine loopF (α := Nat) (kept := [(0, _)]) (fun i => i ≤ l.length ∧ (∀ w ∈ l.take i, WOk w) ∧ (l.take i).Pairwise ltWi) (fun i => [(3, .int i)]) (fun i => []) (fun i => l.length - i) 0 ?_ ⟨gInt rfl (by first | rfl | omega | simp), rfl, trivial⟩ (by repeat constructor) ?_
 ·skip
  exact ⟨by omega, fun w hw => by simp at hw, by simp⟩
 ·rintro i ⟨hi, hv, hs⟩
  refine aSeq ?_
  refine aSeq ?_
  refine aReg ?_
  refine sp pM ?_
  refine sp pM ?_
  refine sp (by first | exact pLm sl_22 | exact pLs sl_22) ?_
  refine sp pB ?_
  refine oNil ?_
  refine aCondDec rfl (fun c8 => ?_) (fun c8 => ?_)
  ·skip
   refine aSkip ?_
   refine aSeq ?_
   refine aBlock ?_
   refine aSeq ?_
   obtain ⟨x, hx⟩ : ∃ z, l[i]? = some z := ⟨_, List.getElem?_eq_getElem (by omega)⟩
   refine aReg ?_
   refine sp pM ?_
   refine sp pM ?_
   first | refine sp (pIx es_22) ?_ | (refine obtSN 11 12 rfl rfl (by omega) (fun x13 hx13 => ?_); refine sp (pIs es_22 hx13) ?_) | (refine obtS 11 12 rfl rfl (by omega) (by omega) (fun x13 hx13 => ?_); refine sp (pIs es_22 hx13) ?_) | refine sp (pIo es_22) ?_
   refine sr (by first | exact rSW ty_38 rfl | exact rSA ty_38) ?_
   refine sq ?_
   refine qAlloc rfl rfl (by decide) ze_38 rfl (fun b4 => ?_)
   refine sa ?_
   refine oStW rfl rfl rfl rfl (by repeat constructor) ty_38 ?_
   refine oNil ?_
   refine aSeq ?_
   refine aSeq ?_
   refine aReg ?_
   refine sp (pFb fd_38_0) ?_
   refine sr (rB1 ty_3) ?_
   refine sp pB ?_
   refine sp pM ?_
   refine oSplitDec 18 rfl (fun c18 => ?_) (fun c18 => ?_)
   ·skip
    refine gf ?_
    refine gf ?_
    refine gf ?_
    refine gf ?_
    refine gf ?_
    refine sp pK ?_
    refine sp pM ?_
    refine gf ?_
    refine gf ?_
    refine gf ?_
    refine sp pK ?_
    refine sp pM ?_
    refine gf ?_
    refine gf ?_
    refine gf ?_
    refine sp pK ?_
    refine sp pM ?_
    refine gf ?_
    refine gf ?_
    refine gf ?_
    refine sp pK ?_
    refine sp pM ?_
    refine gf ?_
    refine gf ?_
    refine gf ?_
    refine sp pK ?_
    refine sp pM ?_
    refine gf ?_
    refine gf ?_
    refine gf ?_
    refine sp pK ?_
    refine oNil ?_
    refine aCondT rfl ?_
    refine aSeq ?_
    refine aReg ?_
    refine sp pMa ?_
    refine oNil ?_
    refine aRet ?_
    refine finIs rfl ?_
    rw [wires_bad1 hx (by unfold WOk; omega)]
    rfl
   ·skip
    refine gp (pFb fd_38_0) ?_
    refine gr (rB1 ty_3) ?_
    refine gp (pFb fd_38_1) ?_
    refine gr (rB1 ty_3) ?_
    refine gp pB ?_
    refine sp pK ?_
    refine sp pM ?_
    refine oSplitDec 25 rfl (fun c25 => ?_) (fun c25 => ?_)
    ·skip
     refine gf ?_
     refine gf ?_
     refine gf ?_
     refine sp pK ?_
     refine sp pM ?_
     refine gf ?_
     refine gf ?_
     refine gf ?_
     refine sp pK ?_
     refine sp pM ?_
     refine gf ?_
     refine gf ?_
     refine gf ?_
     refine sp pK ?_
     refine sp pM ?_
     refine gf ?_
     refine gf ?_
     refine gf ?_
     refine sp pK ?_
     refine sp pM ?_
     refine gf ?_
     refine gf ?_
     refine gf ?_
     refine sp pK ?_
     refine oNil ?_
     refine aCondT rfl ?_
     refine aSeq ?_
     refine aReg ?_
     refine sp pMa ?_
     refine oNil ?_
     refine aRet ?_
     refine finIs rfl ?_
     rw [wires_bad1 hx (by unfold WOk; omega)]
     rfl
    ·skip
     refine gp (pFb fd_38_1) ?_
     refine gr (rB1 ty_3) ?_
     refine gp pB ?_
     refine sp pK ?_
     refine sp pM ?_
     refine oSplitDec 30 rfl (fun c30 => ?_) (fun c30 => ?_)
     ·skip
      refine gf ?_
      refine gf ?_
      refine gf ?_
      refine sp pK ?_
      refine sp pM ?_
      refine gf ?_
      refine gf ?_
      refine gf ?_
      refine sp pK ?_
      refine sp pM ?_
      refine gf ?_
      refine gf ?_
      refine gf ?_
      refine sp pK ?_
      refine sp pM ?_
      refine gf ?_
      refine gf ?_
      refine gf ?_
      refine sp pK ?_
      refine oNil ?_
      refine aCondT rfl ?_
      refine aSeq ?_
      refine aReg ?_
      refine sp pMa ?_
      refine oNil ?_
      refine aRet ?_
      refine finIs rfl ?_
      rw [wires_bad1 hx (by unfold WOk; omega)]
      rfl
     ·skip
      refine gp (pFb fd_38_3) ?_
      refine gr (rB1 ty_3) ?_
      refine gp pB ?_
      refine sp pK ?_
      refine sp pM ?_
      refine oSplitDec 35 rfl (fun c35 => ?_) (fun c35 => ?_)
      ·skip
       refine gf ?_
       refine gf ?_
       refine gf ?_
       refine sp pK ?_
       refine sp pM ?_
       refine gf ?_
       refine gf ?_
       refine gf ?_
       refine sp pK ?_
       refine sp pM ?_
       refine gf ?_
       refine gf ?_
       refine gf ?_
       refine sp pK ?_
       refine oNil ?_
       refine aCondT rfl ?_
       refine aSeq ?_
       refine aReg ?_
       refine sp pMa ?_
       refine oNil ?_
       refine aRet ?_
       refine finIs rfl ?_
       rw [wires_bad1 hx (by unfold WOk; omega)]
       rfl
      ·skip
       refine gp (pFb fd_38_3) ?_
       refine gr (rB1 ty_3) ?_
       refine gp pB ?_
       refine sp pK ?_
       refine sp pM ?_
       refine oSplitDec 40 rfl (fun c40 => ?_) (fun c40 => ?_)
       ·skip
        refine gf ?_
        refine gf ?_
        refine gf ?_
        refine sp pK ?_
        refine sp pM ?_
        refine gf ?_
        refine gf ?_
        refine gf ?_
        refine sp pK ?_
        refine oNil ?_
        refine aCondT rfl ?_
        refine aSeq ?_
        refine aReg ?_
        refine sp pMa ?_
        refine oNil ?_
        refine aRet ?_
        refine finIs rfl ?_
        rw [wires_bad1 hx (by unfold WOk; omega)]
        rfl
       ·skip
        refine gp (pFb fd_38_4) ?_
        refine gr (rB1 ty_3) ?_
        refine gp pB ?_
        refine sp pK ?_
        refine sp pM ?_
        refine oSplitDec 45 rfl (fun c45 => ?_) (fun c45 => ?_)
        ·skip
         refine gf ?_
         refine gf ?_
         refine gf ?_
         refine sp pK ?_
         refine oNil ?_
         refine aCondT rfl ?_
         refine aSeq ?_
         refine aReg ?_
         refine sp pMa ?_
         refine oNil ?_
         refine aRet ?_
         refine finIs rfl ?_
         rw [wires_bad1 hx (by unfold WOk; omega)]
         rfl
        ·skip
         refine gp (pFb fd_38_4) ?_
         refine gr (rB1 ty_3) ?_
         refine gp pB ?_
         refine sp pK ?_
         refine oNil ?_
         refine aCondDec rfl (fun c49 => ?_) (fun c49 => ?_)
         ·skip
          refine aSeq ?_
          refine aReg ?_
          refine sp pMa ?_
          refine oNil ?_
          refine aRet ?_
          refine finIs rfl ?_
          rw [wires_bad1 hx (by unfold WOk; omega)]
          rfl
         ·skip
          refine aSkip ?_
          refine aSeq ?_
          refine aDrawT ref27_May_r7_t ref27_May_r7_b [] 35 #[false, false, false, false, false, false, false, false, false, false, false, false, false, false, false, false, false, false, false, false, false, false, false, false, false, false, false, false, false, false, false, false, false, false, false] (by kernel_rfl) rfl rfl (fun HT => ?_)
          refine dp HT 0 rfl pM ?_
          refine dp HT 1 rfl pB ?_
          refine dp HT 2 rfl pM ?_
          refine dSplitDec 52 rfl (fun c52 => ?_) (fun c52 => ?_)
          ·skip
           obtain ⟨p, hp⟩ : ∃ z, l[i - 1]? = some z := ⟨_, List.getElem?_eq_getElem (by omega)⟩
           have hp2 : l[((i : Int) - 1).toNat]? = some p := by rw [show ((i : Int) - 1).toNat = i - 1 by omega]; exact hp
           refine dpG HT 3 rfl pM ?_
           refine dpG HT 4 rfl pM ?_
           refine dpG HT 5 rfl pSu ?_
           first | refine dpG HT 6 rfl (pIx es_22) ?_ | (refine obtDN 53 55 rfl rfl (by omega) (fun x56 hx56 => ?_); refine dpG HT 6 rfl (pIs es_22 hx56) ?_) | (refine obtD 53 55 rfl rfl (by omega) (by omega) (fun x56 hx56 => ?_); refine dpG HT 6 rfl (pIs es_22 hx56) ?_) | refine dpG HT 6 rfl (pIo es_22) ?_
           refine dpG HT 7 rfl (pFs fd_38_0) ?_
           refine drG HT 8 rfl (rS1 ty_3) ?_
           refine dpG HT 9 rfl (pFb fd_38_0) ?_
           refine drG HT 10 rfl (rB1 ty_3) ?_
           refine dpG HT 11 rfl pB ?_
           refine dpG HT 12 rfl pM ?_
           refine dSplitDec 62 rfl (fun c62 => ?_) (fun c62 => ?_)
           ·skip
            refine dS HT 13 rfl ?_
            refine dS HT 14 rfl ?_
            refine dS HT 15 rfl ?_
            refine dS HT 16 rfl ?_
            refine dS HT 17 rfl ?_
            refine dS HT 18 rfl ?_
            refine dS HT 19 rfl ?_
            refine dS HT 20 rfl ?_
            refine dS HT 21 rfl ?_
            refine dS HT 22 rfl ?_
            refine dS HT 23 rfl ?_
            refine dS HT 24 rfl ?_
            refine dS HT 25 rfl ?_
            refine dS HT 26 rfl ?_
            refine dS HT 27 rfl ?_
            refine dS HT 28 rfl ?_
            refine dS HT 29 rfl ?_
            refine dS HT 30 rfl ?_
            refine dS HT 31 rfl ?_
            refine dS HT 32 rfl ?_
            refine dpG HT 33 rfl pK ?_
            refine dp HT 34 rfl pK ?_
            refine dE HT ?_
            clear HT
            refine aCondT rfl ?_
            refine aSeq ?_
            refine aReg ?_
            refine sp pMa ?_
            refine oNil ?_
            refine aRet ?_
            refine finIs rfl ?_
            rw [wires_bad2 hp hx (by omega) (by unfold ltWi; omega)]
            rfl
           ·skip
            refine dpG HT 13 rfl pM ?_
            refine dpG HT 14 rfl pM ?_
            refine dpG HT 15 rfl pSu ?_
            first | refine dpG HT 16 rfl (pIx es_22) ?_ | (refine obtDN 63 65 rfl rfl (by omega) (fun x66 hx66 => ?_); refine dpG HT 16 rfl (pIs es_22 hx66) ?_) | (refine obtD 63 65 rfl rfl (by omega) (by omega) (fun x66 hx66 => ?_); refine dpG HT 16 rfl (pIs es_22 hx66) ?_) | refine dpG HT 16 rfl (pIo es_22) ?_
            refine dpG HT 17 rfl (pFs fd_38_0) ?_
            refine drG HT 18 rfl (rS1 ty_3) ?_
            refine dpG HT 19 rfl (pFb fd_38_0) ?_
            refine drG HT 20 rfl (rB1 ty_3) ?_
            refine dpG HT 21 rfl pB ?_
            refine dpG HT 22 rfl pM ?_
            refine dSplitEq 72 rfl (fun c72 => ?_) (fun c72 => ?_)
            ·skip
             refine dpG HT 23 rfl pM ?_
             refine dpG HT 24 rfl pM ?_
             refine dpG HT 25 rfl pSu ?_
             first | refine dpG HT 26 rfl (pIx es_22) ?_ | (refine obtDN 73 75 rfl rfl (by omega) (fun x76 hx76 => ?_); refine dpG HT 26 rfl (pIs es_22 hx76) ?_) | (refine obtD 73 75 rfl rfl (by omega) (by omega) (fun x76 hx76 => ?_); refine dpG HT 26 rfl (pIs es_22 hx76) ?_) | refine dpG HT 26 rfl (pIo es_22) ?_
             refine dpG HT 27 rfl (pFs fd_38_1) ?_
             refine drG HT 28 rfl (rS1 ty_3) ?_
             refine dpG HT 29 rfl (pFb fd_38_1) ?_
             refine drG HT 30 rfl (rB1 ty_3) ?_
             refine dpG HT 31 rfl pB ?_
             refine dpG HT 32 rfl pK ?_
             refine dpG HT 33 rfl pK ?_
             refine dp HT 34 rfl pK ?_
             refine dE HT ?_
             clear HT
             refine aCondDec rfl (fun c84 => ?_) (fun c84 => ?_)
             ·skip
              refine aSeq ?_
              refine aReg ?_
              refine sp pMa ?_
              refine oNil ?_
              refine aRet ?_
              refine finIs rfl ?_
              rw [wires_bad2 hp hx (by omega) (by unfold ltWi; omega)]
              rfl
             ·skip
              refine aSkip ?_
              refine aReg ?_
              refine sp pM ?_
              refine sp pAd ?_
              refine sp pMa ?_
              refine oNil ?_
              refine ⟨i + 1, ?_, by (try dsimp only); omega, ⟨gInt rfl (by first | rfl | omega | simp), rfl, trivial⟩, _, (by repeat constructor)⟩
              refine ⟨by omega, fun w hw => ?_, pw_step (r := ltWi) (fun _ _ _ => ltWi_trans) hx hs ?_⟩
              ·rw [take_step hx] at hw
               rcases List.mem_append.1 hw with hw | hw
               ·exact hv w hw
               ·rw [List.mem_singleton.1 hw]; unfold WOk; omega
              ·first
                 | (left; omega)
                 | (refine .inr ⟨p, hp, ?_⟩; unfold ltWi; omega)
            ·skip
             refine dS HT 23 rfl ?_
             refine dS HT 24 rfl ?_
             refine dS HT 25 rfl ?_
             refine dS HT 26 rfl ?_
             refine dS HT 27 rfl ?_
             refine dS HT 28 rfl ?_
             refine dS HT 29 rfl ?_
             refine dS HT 30 rfl ?_
             refine dS HT 31 rfl ?_
             refine dpG HT 32 rfl pK ?_
             refine dpG HT 33 rfl pK ?_
             refine dp HT 34 rfl pK ?_
             refine dE HT ?_
             clear HT
             refine aCondF rfl ?_
             refine aSkip ?_
             refine aReg ?_
             refine sp pM ?_
             refine sp pAd ?_
             refine sp pMa ?_
             refine oNil ?_
             refine ⟨i + 1, ?_, by (try dsimp only); omega, ⟨gInt rfl (by first | rfl | omega | simp), rfl, trivial⟩, _, (by repeat constructor)⟩
             refine ⟨by omega, fun w hw => ?_, pw_step (r := ltWi) (fun _ _ _ => ltWi_trans) hx hs ?_⟩
             ·rw [take_step hx] at hw
              rcases List.mem_append.1 hw with hw | hw
              ·exact hv w hw
              ·rw [List.mem_singleton.1 hw]; unfold WOk; omega
             ·first
                | (left; omega)
                | (refine .inr ⟨p, hp, ?_⟩; unfold ltWi; omega)
          ·skip
           refine dS HT 3 rfl ?_
           refine dS HT 4 rfl ?_
           refine dS HT 5 rfl ?_
           refine dS HT 6 rfl ?_
           refine dS HT 7 rfl ?_
           refine dS HT 8 rfl ?_
           refine dS HT 9 rfl ?_
           refine dS HT 10 rfl ?_
           refine dS HT 11 rfl ?_
           refine dS HT 12 rfl ?_
           refine dS HT 13 rfl ?_
           refine dS HT 14 rfl ?_
           refine dS HT 15 rfl ?_
           refine dS HT 16 rfl ?_
           refine dS HT 17 rfl ?_
           refine dS HT 18 rfl ?_
           refine dS HT 19 rfl ?_
           refine dS HT 20 rfl ?_
           refine dS HT 21 rfl ?_
           refine dS HT 22 rfl ?_
           refine dS HT 23 rfl ?_
           refine dS HT 24 rfl ?_
           refine dS HT 25 rfl ?_
           refine dS HT 26 rfl ?_
           refine dS HT 27 rfl ?_
           refine dS HT 28 rfl ?_
           refine dS HT 29 rfl ?_
           refine dS HT 30 rfl ?_
           refine dS HT 31 rfl ?_
           refine dS HT 32 rfl ?_
           refine dS HT 33 rfl ?_
           refine dp HT 34 rfl pK ?_
           refine dE HT ?_
           clear HT
           refine aCondF rfl ?_
           refine aSkip ?_
           refine aReg ?_
           refine sp pM ?_
           refine sp pAd ?_
           refine sp pMa ?_
           refine oNil ?_
           refine ⟨i + 1, ?_, by (try dsimp only); omega, ⟨gInt rfl (by first | rfl | omega | simp), rfl, trivial⟩, _, (by repeat constructor)⟩
           refine ⟨by omega, fun w hw => ?_, pw_step (r := ltWi) (fun _ _ _ => ltWi_trans) hx hs ?_⟩
           ·rw [take_step hx] at hw
            rcases List.mem_append.1 hw with hw | hw
            ·exact hv w hw
            ·rw [List.mem_singleton.1 hw]; unfold WOk; omega
           ·first
              | (left; omega)
              | (refine .inr ⟨p, hp, ?_⟩; unfold ltWi; omega)
  ·skip
   refine aExit rfl ?_
   refine aSeq ?_
   refine aReg ?_
   refine sp pMa ?_
   refine oNil ?_
   refine aRet ?_
   refine finIs rfl ?_
   rw [take_all (by omega)] at hv hs
   rw [wires_good hv hs]
   rfl
theorem ordw {p x : Wi} : orI [cmpI p.a x.a, cmpI p.b x.b] < 0 ↔ ltWi p x := by
 simp only [orI]
 have h1 := cmpI_ne (a := p.a) (b := x.a)
 have h2 := cmpI_lt (a := p.a) (b := x.a)
 have h3 := cmpI_ne (a := p.b) (b := x.b)
 have h4 := cmpI_lt (a := p.b) (b := x.b)
 unfold ltWi
 split
 ·omega
 ·split <;> omega
/- live.Check -/
def live_Check_r6_T : Bool × List (List Nat × List Nat) := (true, [([], []), ([0], [0]), ([1], [1]), ([2], [2]), ([2], [2]), ([4, 2], [2, 4]), ([3, 5, 2], [2, 3, 5]), ([6, 2], [2, 6]), ([7, 2], [2, 7]), ([2], [2]), ([9, 2], [2, 9]), ([8, 10, 2, 2], [2, 8, 10]), ([2], [2]), ([2], [2]), ([13, 2], [2, 13]), ([12, 14, 2], [2, 12, 14]), ([15, 2], [2, 15]), ([16, 2], [2, 16]), ([2], [2]), ([18, 2], [2, 18]), ([17, 19, 11, 2], [2, 17, 19]), ([11, 20, 2], [2, 11, 20]), ([21, 20, 2], [2, 21]), ([22, 2], [2, 22]), ([2, 23], [2, 23])])
def live_Check_r6_B : List Nat := [0, 1, 3, 7, 7, 23, 63, 127, 255, 7, 519, 2047, 7, 7, 8199, 28679, 61447, 126983, 7, 262151, 1048575, 2097151, 4194303, 8388607, 16777215]
theorem live_Check_r6_t : Go.Proofs.YtgdfppjapnpcgaaDoorW.PrintLast.rtab .any (Go.Proofs.YtgdfppjapnpcgaaDoorW.PrintLast.opsOf Tryd.f30 6) = live_Check_r6_T := by kernel_rfl
theorem live_Check_r6_b : Go.Proofs.YtgdfppjapnpcgaaDoorW.PrintLast.waitsOk live_Check_r6_T.2 live_Check_r6_B = true := by kernel_rfl
set_option maxRecDepth 100000 in
set_option maxHeartbeats 4000000 in
theorem live_Check {l : List Wi} (hl : l.length < 9223372036854775807) : Triple Tryd.prog 30 [.sl 5 (l.map wirC)] [] (Is (.v (.int .i64 (if wiresB l then 0 else 1))) []) := by
 refine triple_of Tryd.func30 rfl (by kernel_rfl) rfl (by simp) ?_
 refine aSeq ?_
 refine aReg ?_
 refine sp pMa ?_
 refine oNil ?_
 refine aSeq ?_
 refine aSeq ?_
 refine aReg ?_
 refine sp pM ?_
 refine sp (by first | exact pLm sl_22 | exact pLs sl_22) ?_
 refine sp pM ?_
 refine oNil ?_
 refine aBlock ?_
 refine loopF (α := Nat) (kept := [(0, _), (5, _), (6, _)]) (fun i => i ≤ l.length ∧ (∀ w ∈ l.take i, WOk w) ∧ (l.take i).Pairwise ltWi) (fun i => [(7, .int i)]) (fun i => []) (fun i => l.length - i) 0 ?_ ⟨gInt rfl (by first | rfl | omega | simp), rfl, rfl, rfl, trivial⟩ (by repeat constructor) ?_
 ·skip
  exact ⟨by omega, fun w hw => by simp at hw, by simp⟩
 ·rintro i ⟨hi, hv, hs⟩
  refine aSeq ?_
  refine aReg ?_
  refine sp pB ?_
  refine oNil ?_
  refine aSeq ?_
  refine aCondDec rfl (fun c8 => ?_) (fun c8 => ?_)
  ·skip
   refine aSkip ?_
   refine aSeq ?_
   refine aBlock ?_
   refine aSeq ?_
   obtain ⟨x, hx⟩ : ∃ z, l[i]? = some z := ⟨_, List.getElem?_eq_getElem (by omega)⟩
   refine aReg ?_
   refine sp pM ?_
   first | refine sp (pIx es_22) ?_ | (refine obtSN 5 7 rfl rfl (by omega) (fun x10 hx10 => ?_); refine sp (pIs es_22 hx10) ?_) | (refine obtS 5 7 rfl rfl (by omega) (by omega) (fun x10 hx10 => ?_); refine sp (pIs es_22 hx10) ?_) | refine sp (pIo es_22) ?_
   refine sr (by first | exact rSW ty_38 rfl | exact rSA ty_38) ?_
   refine sq ?_
   refine qAlloc rfl rfl (by decide) ze_38 rfl (fun b4 => ?_)
   refine sp pMa ?_
   refine sa ?_
   refine oStW rfl rfl rfl rfl (by repeat constructor) ty_38 ?_
   refine oNil ?_
   refine aSeq ?_
   refine aSeq ?_
   refine aReg ?_
   refine sp (pFb fd_38_0) ?_
   refine sr (rB1 ty_3) ?_
   refine sq ?_
   refine cv rfl rfl rfl (lents_refl _) live_within ?_
   refine sp pNo ?_
   refine sp pM ?_
   refine oSplitNot 16 rfl (fun c16 => ?_) (fun c16 => ?_)
   ·skip
    refine gf ?_
    refine gf ?_
    refine gf ?_
    refine gf ?_
    refine sp pK ?_
    refine sp pM ?_
    refine gf ?_
    refine gf ?_
    refine gf ?_
    refine gf ?_
    refine gf ?_
    refine sp pK ?_
    refine sp pM ?_
    refine gf ?_
    refine gf ?_
    refine gf ?_
    refine gf ?_
    refine sp pK ?_
    refine sp pM ?_
    refine gf ?_
    refine gf ?_
    refine gf ?_
    refine gf ?_
    refine sp pK ?_
    refine oNil ?_
    refine aCondT rfl ?_
    refine aSeq ?_
    refine aReg ?_
    refine sp pMa ?_
    refine oNil ?_
    refine aRet ?_
    refine finIs rfl ?_
    rw [wires_bad1 hx (fun e => by unfold WOk at e; first | (simp_all; done) | (simp_all; omega))]
    rfl
   ·skip
    refine gp (pFb fd_38_1) ?_
    refine gr (rB1 ty_3) ?_
    refine ga ?_
    refine (cv rfl rfl rfl (lents_refl _) live_within ?_).op
    refine gp pNo ?_
    refine sp pK ?_
    refine sp pM ?_
    refine oSplitNot 22 rfl (fun c22 => ?_) (fun c22 => ?_)
    ·skip
     refine gf ?_
     refine gf ?_
     refine gf ?_
     refine gf ?_
     refine gf ?_
     refine sp pK ?_
     refine sp pM ?_
     refine gf ?_
     refine gf ?_
     refine gf ?_
     refine gf ?_
     refine sp pK ?_
     refine sp pM ?_
     refine gf ?_
     refine gf ?_
     refine gf ?_
     refine gf ?_
     refine sp pK ?_
     refine oNil ?_
     refine aCondT rfl ?_
     refine aSeq ?_
     refine aReg ?_
     refine sp pMa ?_
     refine oNil ?_
     refine aRet ?_
     refine finIs rfl ?_
     rw [wires_bad1 hx (fun e => by unfold WOk at e; first | (simp_all; done) | (simp_all; omega))]
     rfl
    ·skip
     refine gp (pFb fd_38_0) ?_
     refine gr (rB1 ty_3) ?_
     refine gp (pFb fd_38_1) ?_
     refine gr (rB1 ty_3) ?_
     refine gp pB ?_
     refine sp pK ?_
     refine sp pM ?_
     refine oSplitDec 29 rfl (fun c29 => ?_) (fun c29 => ?_)
     ·skip
      refine gf ?_
      refine gf ?_
      refine gf ?_
      refine gf ?_
      refine sp pK ?_
      refine sp pM ?_
      refine gf ?_
      refine gf ?_
      refine gf ?_
      refine gf ?_
      refine sp pK ?_
      refine oNil ?_
      refine aCondT rfl ?_
      refine aSeq ?_
      refine aReg ?_
      refine sp pMa ?_
      refine oNil ?_
      refine aRet ?_
      refine finIs rfl ?_
      rw [wires_bad1 hx (fun e => by unfold WOk at e; first | (simp_all; done) | (simp_all; omega))]
      rfl
     ·skip
      refine gp (pFb fd_38_3) ?_
      refine gr (rB1 ty_3) ?_
      refine ga ?_
      refine (cv rfl rfl rfl (lents_refl _) live_within ?_).op
      refine gp pNo ?_
      refine sp pK ?_
      refine sp pM ?_
      refine oSplitNot 35 rfl (fun c35 => ?_) (fun c35 => ?_)
      ·skip
       refine gf ?_
       refine gf ?_
       refine gf ?_
       refine gf ?_
       refine sp pK ?_
       refine oNil ?_
       refine aCondT rfl ?_
       refine aSeq ?_
       refine aReg ?_
       refine sp pMa ?_
       refine oNil ?_
       refine aRet ?_
       refine finIs rfl ?_
       rw [wires_bad1 hx (fun e => by unfold WOk at e; first | (simp_all; done) | (simp_all; omega))]
       rfl
      ·skip
       refine gp (pFb fd_38_4) ?_
       refine gr (rB1 ty_3) ?_
       refine ga ?_
       refine (cv rfl rfl rfl (lents_refl _) live_within ?_).op
       refine gp pNo ?_
       refine sp pK ?_
       refine oNil ?_
       refine aCondNot rfl (fun c40 => ?_) (fun c40 => ?_)
       ·skip
        refine aSeq ?_
        refine aReg ?_
        refine sp pMa ?_
        refine oNil ?_
        refine aRet ?_
        refine finIs rfl ?_
        rw [wires_bad1 hx (fun e => by unfold WOk at e; first | (simp_all; done) | (simp_all; omega))]
        rfl
       ·skip
        refine aSkip ?_
        refine aSeq ?_
        refine aDrawT live_Check_r6_t live_Check_r6_b [] 25 #[false, false, false, false, false, false, false, false, false, false, false, false, false, false, false, false, false, false, false, false, false, false, false, false, false] (by kernel_rfl) rfl rfl (fun HT => ?_)
        refine dp HT 0 rfl pM ?_
        refine dp HT 1 rfl pB ?_
        refine dp HT 2 rfl pM ?_
        refine dSplitDec 43 rfl (fun c43 => ?_) (fun c43 => ?_)
        ·skip
         obtain ⟨p, hp⟩ : ∃ z, l[i - 1]? = some z := ⟨_, List.getElem?_eq_getElem (by omega)⟩
         have hp2 : l[((i : Int) - 1).toNat]? = some p := by rw [show ((i : Int) - 1).toNat = i - 1 by omega]; exact hp
         refine dpG HT 3 rfl pM ?_
         refine dpG HT 4 rfl pM ?_
         refine dpG HT 5 rfl pSu ?_
         first | refine dpG HT 6 rfl (pIx es_22) ?_ | (refine obtDN 44 46 rfl rfl (by omega) (fun x47 hx47 => ?_); refine dpG HT 6 rfl (pIs es_22 hx47) ?_) | (refine obtD 44 46 rfl rfl (by omega) (by omega) (fun x47 hx47 => ?_); refine dpG HT 6 rfl (pIs es_22 hx47) ?_) | refine dpG HT 6 rfl (pIo es_22) ?_
         refine dpG HT 7 rfl (pFs fd_38_0) ?_
         refine drG HT 8 rfl (rS1 ty_3) ?_
         refine dpG HT 9 rfl (pFb fd_38_0) ?_
         refine drG HT 10 rfl (rB1 ty_3) ?_
         refine dpG HT 12 rfl pM ?_
         refine dpG HT 13 rfl pM ?_
         refine dpG HT 14 rfl pSu ?_
         first | refine dpG HT 15 rfl (pIx es_22) ?_ | (refine obtDN 53 55 rfl rfl (by omega) (fun x56 hx56 => ?_); refine dpG HT 15 rfl (pIs es_22 hx56) ?_) | (refine obtD 53 55 rfl rfl (by omega) (by omega) (fun x56 hx56 => ?_); refine dpG HT 15 rfl (pIs es_22 hx56) ?_) | refine dpG HT 15 rfl (pIo es_22) ?_
         refine dpG HT 16 rfl (pFs fd_38_1) ?_
         refine drG HT 17 rfl (rS1 ty_3) ?_
         refine dpG HT 18 rfl (pFb fd_38_1) ?_
         refine drG HT 19 rfl (rB1 ty_3) ?_
         refine dGo ?_
         refine e1G HT 11 rfl ?_
         refine cv rfl rfl rfl (lents_refl _) (cmp_Compare (a := p.a) (b := x.a)) ?_
         refine e1G HT 20 rfl ?_
         refine cv rfl rfl rfl (lents_refl _) (cmp_Compare (a := p.b) (b := x.b)) ?_
         refine e1G HT 21 rfl ?_
         refine qLit (l := [_, _]) rfl rfl (by decide) us_62 ty_3 ze_3 rfl (by decide) (by decide) rfl rfl rfl (fun b62 => ?_)
         refine e1G HT 22 rfl ?_
         refine cv rfl rfl rfl (by repeat (first | exact .nil | refine .cons (.sl (by repeat (first | exact List.mem_cons_self | apply List.mem_cons_of_mem)) (by first | rfl | simp)) ?_ | refine .cons (.same _) ?_)) (cmp_Or [cmpI p.a x.a, cmpI p.b x.b]) ?_
         refine efG HT 23 rfl pB ?_
         refine ef HT 24 rfl pK ?_
         refine eE HT ?_
         clear HT
         refine aCondDec rfl (fun c65 => ?_) (fun c65 => ?_)
         ·skip
          refine aSeq ?_
          refine aReg ?_
          refine sp pMa ?_
          refine oNil ?_
          refine aRet ?_
          refine finIs rfl ?_
          rw [wires_bad2 hp hx (by omega) (by rw [← ordw]; omega)]
          rfl
         ·skip
          refine aSkip ?_
          refine aReg ?_
          refine sp pAd ?_
          refine sp pM ?_
          refine oNil ?_
          refine ⟨i + 1, ?_, by (try dsimp only); omega, ⟨gInt rfl (by first | rfl | omega | simp), rfl, rfl, rfl, trivial⟩, _, (by repeat constructor)⟩
          refine ⟨by omega, fun w hw => ?_, pw_step (r := ltWi) (fun _ _ _ => ltWi_trans) hx hs ?_⟩
          ·rw [take_step hx] at hw
           rcases List.mem_append.1 hw with hw | hw
           ·exact hv w hw
           ·rw [List.mem_singleton.1 hw]; unfold WOk; first | (simp_all; done) | (simp_all; omega)
          ·first
             | (left; omega)
             | (refine .inr ⟨p, hp, ?_⟩; rw [← ordw]; omega)
        ·skip
         refine dS HT 3 rfl ?_
         refine dS HT 4 rfl ?_
         refine dS HT 5 rfl ?_
         refine dS HT 6 rfl ?_
         refine dS HT 7 rfl ?_
         refine dS HT 8 rfl ?_
         refine dS HT 9 rfl ?_
         refine dS HT 10 rfl ?_
         refine dS HT 11 rfl ?_
         refine dS HT 12 rfl ?_
         refine dS HT 13 rfl ?_
         refine dS HT 14 rfl ?_
         refine dS HT 15 rfl ?_
         refine dS HT 16 rfl ?_
         refine dS HT 17 rfl ?_
         refine dS HT 18 rfl ?_
         refine dS HT 19 rfl ?_
         refine dGo ?_
         refine eS HT 20 rfl ?_
         refine eS HT 21 rfl ?_
         refine eS HT 22 rfl ?_
         refine eS HT 23 rfl ?_
         refine ef HT 24 rfl pK ?_
         refine eE HT ?_
         clear HT
         refine aCondF rfl ?_
         refine aSkip ?_
         refine aReg ?_
         refine sp pAd ?_
         refine sp pM ?_
         refine oNil ?_
         refine ⟨i + 1, ?_, by (try dsimp only); omega, ⟨gInt rfl (by first | rfl | omega | simp), rfl, rfl, rfl, trivial⟩, _, (by repeat constructor)⟩
         refine ⟨by omega, fun w hw => ?_, pw_step (r := ltWi) (fun _ _ _ => ltWi_trans) hx hs ?_⟩
         ·rw [take_step hx] at hw
          rcases List.mem_append.1 hw with hw | hw
          ·exact hv w hw
          ·rw [List.mem_singleton.1 hw]; unfold WOk; first | (simp_all; done) | (simp_all; omega)
         ·first
            | (left; omega)
            | (refine .inr ⟨p, hp, ?_⟩; rw [← ordw]; omega)
  ·skip
   refine aExit rfl ?_
   refine aSeq ?_
   refine aReg ?_
   refine sp pMa ?_
   refine oNil ?_
   refine aRet ?_
   refine finIs rfl ?_
   rw [take_all (by omega)] at hv hs
   rw [wires_good hv hs]
   rfl
end A
end Go.Proofs.YtgdfppjapnpcgaaDoor
namespace Go.Proofs.YtgdfppjapnpcgaaDoor
namespace A
open Go.Lib (itoa join)
abbrev SBs := List UInt8
def spS : SBs := [32]
def nlS : SBs := [10]
def howS (u : Bool) : SBs := if u then [117, 112] else [100, 111, 119, 110]
def wordsW (w : Wi) : List SBs := [[119, 105, 114, 101], itoa w.a, itoa w.b, howS w.u, itoa w.ca, itoa w.cb]
def lineW (w : Wi) : SBs := join (wordsW w) spS
def linesP (n s : Int) (l : List Wi) : List SBs := ([110, 111, 100, 101, 115, 32] ++ itoa n) :: ([115, 101, 99, 116, 111, 114, 115, 32] ++ itoa s) :: l.map lineW
def mayP (n s : Int) (l : List Wi) : Bool := (decide (1 ≤ n) && (decide (n ≤ 64) && (decide (6 ≤ s) && (decide (s ≤ 1024) && wiresB l)))) && l.all fun w => decide (w.b ≤ n)
def textP (n s : Int) (l : List Wi) : SBs := join (linesP n s l) nlS ++ nlS
def textE (n s : Int) (l : List Wi) : SBs := if mayP n s l then textP n s l else []
/-- The number that a word seems to be; below 0: none. -/
def numA (s : SBs) : Int := match Go.Lib.atoiAll s with | .ok n => n | _ => -1
def oneA (line word : SBs) : Int := if Go.Lib.hasPrefix line (word ++ spS) then numA (Go.Lib.trimPrefix line (word ++ spS)) else -1
def wireA (line : SBs) : Option Wi := match splitS line spS with | [_, a, b, u, c, d] => some ⟨numA a, numA b, decide (u = [117, 112]), numA c, numA d⟩ | _ => none
def wiresA : List SBs → Option (List Wi)
 | [] => some []
 | x :: t => match wireA x with | none => none | some w => (wiresA t).map (w :: ·)
def parseA (s : SBs) : Option (Int × Int × List Wi) :=
 match splitS (Go.Lib.trimSuffix s nlS) nlS with
 | x :: y :: t => match wiresA t with
   | none => none
   | some l => if mayP (oneA x [110, 111, 100, 101, 115]) (oneA y [115, 101, 99, 116, 111, 114, 115]) l = true ∧ textP (oneA x [110, 111, 100, 101, 115]) (oneA y [115, 101, 99, 116, 111, 114, 115]) l = s then some (oneA x [110, 111, 100, 101, 115], oneA y [115, 101, 99, 116, 111, 114, 115], l) else none
 | _ => none
theorem all_may (l : List Wi) (n : Int) : (l.all fun w => decide (w.b ≤ n)) = !l.any fun w => decide (n < w.b) := by
 rw [List.not_any_eq_all_not]
 congr 1
 funext w
 rw [Bool.eq_iff_iff]
 simp
theorem itoa_len {n : Int} (h0 : -9223372036854775808 ≤ n) (h1 : n ≤ 9223372036854775807) : (itoa n).length ≤ 21 := Go.Lib.itoa_length_le n h0 h1
theorem join_len : ∀ (xs : List SBs) (sep : SBs) (k : Nat), (∀ x ∈ xs, x.length ≤ k) → (join xs sep).length ≤ xs.length * (k + sep.length)
 | [], sep, k, _ => by simp [join, List.intercalate]
 | [x], sep, k, h => by
   have := h x (by simp)
   simp [join, List.intercalate]
   omega
 | x :: y :: t, sep, k, h => by
   have h1 := h x (by simp)
   have h2 := join_len (y :: t) sep k (fun z hz => h z (by simp [hz]))
   have e : join (x :: y :: t) sep = x ++ sep ++ join (y :: t) sep := by simp [join, List.intercalate, List.intersperse]
   rw [e, List.length_append, List.length_append, List.length_cons (a := x), Nat.succ_mul]
   omega
end A
end Go.Proofs.YtgdfppjapnpcgaaDoor
namespace Go.Proofs.YtgdfppjapnpcgaaDoor
namespace A
theorem el_39 : elemOf Tryd.prog 39 = some (9, 1, 16) := by kernel_rfl
theorem es_39 : elemSize Tryd.prog 39 = some 1 := by kernel_rfl
theorem es_60 : elemSize Tryd.prog 60 = some 1 := by kernel_rfl
theorem ik_3 : intKindOf Tryd.prog 3 = some .i64 := by kernel_rfl
theorem sl_39 : isSl Tryd.prog 39 = true := by kernel_rfl
theorem sl_60 : isSl Tryd.prog 60 = true := by kernel_rfl
theorem ty_39 : tyOf Tryd.prog 39 = some (1, false) := by kernel_rfl
theorem ty_9 : tyOf Tryd.prog 9 = some (1, false) := by kernel_rfl
theorem us_39 : Tryd.prog.underlying 39 = some (.slice 9) := by kernel_rfl
theorem ze_9 : zeroOf Tryd.prog 9 = some (.string ⟨#[]⟩) := by kernel_rfl
open Go.Lib (itoa join)
def strsC (x : List SBs) : List AV := [.sl 1 (x.map strC)]
theorem catS_step {l : List (List SBs)} {i : Nat} {b : List SBs} (h : l[i]? = some b) : (l.take (i + 1)).flatten = (l.take i).flatten ++ b := by
 rw [take_step h, List.flatten_append]
 simp
theorem catS_len {l : List (List SBs)} (i : Nat) (hb : (l.flatten).length ≤ 1000000) : ((l.take i).flatten).length ≤ 1000000 := by
 have : l.flatten = (l.take i).flatten ++ (l.drop i).flatten := by rw [← List.flatten_append, List.take_append_drop]
 rw [this, List.length_append] at hb
 omega
theorem anyR_idx {α : Type} (p : α → Bool) (l : List α) : decide (0 ≤ idxF p l) = l.any p := by
 rcases idxF_cases p l with ⟨h1, h2⟩ | ⟨i, x, h1, h2, h3⟩
 ·rw [h1]
  have : l.any p = false := by
    rw [List.any_eq_false]
    exact fun x hx => by simpa using List.find?_eq_none.1 h2 x hx
  rw [this]
  rfl
 ·rw [h1]
  have : l.any p = true := List.any_eq_true.2 ⟨x, List.mem_of_getElem? h2, List.find?_some h3⟩
  rw [this, decide_eq_true_eq]
  omega
/- slices.Grow[[]string,string] -/
set_option maxRecDepth 100000 in
set_option maxHeartbeats 400000 in
theorem grow_S0 {n : Nat} (hn : n ≤ 10000000) : Triple Tryd.prog 34 [.v (.slice none 0 0), .int n] [] (Own 9 1 (([] : List SBs).map strC) []) := by
 refine triple_of Tryd.func34 rfl (by kernel_rfl) rfl (by simp) ?_
 refine aSeq ?_
 refine aReg ?_
 refine sp pMa ?_
 refine oNil ?_
 refine aSeq ?_
 refine aSeq ?_
 refine aReg ?_
 refine sp pM ?_
 refine sp (pBl (by exact pB) (show _ = false from decide_eq_false (by omega))) ?_
 refine oNil ?_
 refine aCondF rfl ?_
 refine aSkip ?_
 refine aSeq ?_
 refine aSeq ?_
 refine aWeak (weak_nil 9 1) ?_
 refine aReg ?_
 refine sp pM ?_
 refine sp pM ?_
 refine sp (pCap sl_39) ?_
 refine sp pM ?_
 refine sp (by first | exact pLm sl_39 | exact pLs sl_39 | exact pLv sl_39) ?_
 refine sp pSu ?_
 refine sp pSu ?_
 rw [show ((n : Int) - (((0 : Nat) : Int) - ((0 : Nat) : Int))) = (n : Int) by omega]
 refine sp pMa ?_
 refine oNil ?_
 refine aSeq ?_
 refine aReg ?_
 refine sp pM ?_
 refine sp pB ?_
 refine oNil ?_
 refine aCondDec rfl (fun c16 => ?_) (fun c16 => ?_)
 ·skip
  refine aReg ?_
  refine sp pM ?_
  refine sp pM ?_
  refine sp (pCap sl_39) ?_
  refine sp (pSlHi (g := none) (n := 0) (c := 0) rfl rfl es_39 (bdI rfl) (by omega)) ?_
  refine sp pM ?_
  refine sa ?_
  refine oAppNilZ (m := n) [strA []] rfl rfl (by decide) rfl rfl (by repeat constructor) el_39 ik_3 ze_9 rfl rfl (fun F w j av x hj hx => by match j with | 0 => (simp at hj; simp [Value.cells] at hx; subst hj; subst hx; exact .v _) | j + 1 => simp at hj) (by omega) (by omega) (by omega) (fun g22 k22 => ?_)
  refine sp pM ?_
  refine sp (by first | exact pLm sl_39 | exact pLs sl_39 | exact pLv sl_39) ?_
  refine sp (pSlHi rfl rfl es_39 (bdI rfl) (by omega)) ?_
  refine sp pMa ?_
  refine oNil ?_
  refine aSeq ?_
  refine aReg ?_
  refine sp pM ?_
  refine sp pMa ?_
  refine oNil ?_
  refine aWeak (weak_cut 0 (by repeat constructor)) ?_
  refine aRet ?_
  refine finOwn rfl ?_
  simp
 ·skip
  refine aSkip ?_
  refine aSeq ?_
  refine aReg ?_
  refine sp pM ?_
  refine sp pMa ?_
  refine oNil ?_
  refine aWeak (weak_cut 0 (by repeat constructor)) ?_
  refine aRet ?_
  refine finOwn rfl ?_
  simp
/- slices.Concat[[]string,string] -/
set_option maxRecDepth 100000 in
set_option maxHeartbeats 400000 in
theorem concat_S {l : List (List SBs)} (hl : l.length ≤ 1000000 := by omega) (hb : l.flatten.length ≤ 1000000) : Triple Tryd.prog 19 [.sl 1 (l.map strsC)] [] (Own 9 1 (l.flatten.map strC) []) := by
 refine triple_of Tryd.func19 rfl (by kernel_rfl) rfl (by simp) ?_
 refine aSeq ?_
 refine aReg ?_
 refine sp pMa ?_
 refine oNil ?_
 refine aSeq ?_
 refine aReg ?_
 refine sp pMa ?_
 refine oNil ?_
 refine aSeq ?_
 refine aSeq ?_
 refine aReg ?_
 refine sp pM ?_
 refine sp (by first | exact pLm sl_60 | exact pLs sl_60) ?_
 refine sp pM ?_
 refine oNil ?_
 refine aBlock ?_
 refine loopF (α := Nat) (kept := [(0, _), (9, _), (10, _)]) (fun i => i ≤ l.length) (fun i => [(11, .int i), (3, .int (l.take i).flatten.length)]) (fun i => []) (fun i => l.length - i) 0 ?_ ⟨gInt rfl (by first | rfl | omega | simp), gInt rfl (by first | rfl | (rw [catS_step hx, List.length_append]; omega)), rfl, rfl, rfl, trivial⟩ (by repeat constructor) ?_
 ·skip
  omega
 ·rintro i hi
  refine aSeq ?_
  refine aReg ?_
  refine sp pB ?_
  refine oNil ?_
  refine aSeq ?_
  refine aCondDec rfl (fun c12 => ?_) (fun c12 => ?_)
  ·skip
   refine aSkip ?_
   refine aSeq ?_
   refine aBlock ?_
   refine aSeq ?_
   obtain ⟨x, hx⟩ : ∃ z, l[i]? = some z := ⟨_, List.getElem?_eq_getElem (by omega)⟩
   have hcl := catS_len (i + 1) hb
   rw [catS_step hx, List.length_append] at hcl
   refine aReg ?_
   first | refine sp (pIx es_60) ?_ | (refine obtSN 9 11 rfl rfl (by omega) (fun x13 hx13 => ?_); refine sp (pIs es_60 hx13) ?_) | (refine obtS 9 11 rfl rfl (by omega) (by omega) (fun x13 hx13 => ?_); refine sp (pIs es_60 hx13) ?_) | refine sp (pIo es_60) ?_
   refine sr (rS1 ty_39) ?_
   refine sp pMa ?_
   refine oNil ?_
   refine aSeq ?_
   refine aReg ?_
   refine sp pM ?_
   refine sp pM ?_
   refine sp (by first | exact pLm sl_39 | exact pLs sl_39 | exact pLv sl_39) ?_
   refine sp pAd ?_
   refine sp pMa ?_
   refine oNil ?_
   refine aSeq ?_
   refine aReg ?_
   refine sp pM ?_
   refine sp (pBl (by exact pB) (show _ = false from decide_eq_false (by omega))) ?_
   refine oNil ?_
   refine aCondF rfl ?_
   refine aSkip ?_
   refine aReg ?_
   refine sp pAd ?_
   refine sp pM ?_
   refine oNil ?_
   refine ⟨i + 1, ?_, by (try dsimp only); omega, ⟨gInt rfl (by first | rfl | omega | simp), gInt rfl (by first | rfl | (rw [catS_step hx, List.length_append]; omega)), rfl, rfl, rfl, trivial⟩, _, (by repeat constructor)⟩
   omega
  ·skip
   refine aExit rfl ?_
   refine aSeq ?_
   have hcl := catS_len i hb
   refine aReg ?_
   refine sp pM ?_
   refine sa ?_
   first | refine coM rfl rfl rfl (grow_S0 (n := (l.take i).flatten.length) (by omega)) (fun g24 k24 => ?_) | refine co rfl rfl rfl (grow_S0 (n := (l.take i).flatten.length) (by omega)) (fun g24 k24 => ?_)
   refine sp pMa ?_
   refine oNil ?_
   refine aSeq ?_
   refine aSeq ?_
   refine aReg ?_
   refine sp pM ?_
   refine sp (by first | exact pLm sl_60 | exact pLs sl_60) ?_
   refine sp pM ?_
   refine oNil ?_
   refine aBlock ?_
   refine loopF (α := Nat × List SBs × Option Nat × Nat) (kept := [(25, _), (26, _)]) (fun (i, out, g, c) => i ≤ l.length ∧ out = (l.take i).flatten) (fun (i, out, g, c) => [(27, .int i), (6, .v (slV g out.length c))]) (fun (i, out, g, c) => [.sl g c 9 1 (out.map strC)]) (fun (i, out, g, c) => l.length - i) (0, [], _, _) ?_ ⟨gInt rfl (by first | rfl | omega | simp), gLen rfl (by first | rfl | simp | (simp; omega)), rfl, rfl, trivial⟩ (by repeat constructor) ?_
   ·skip
    exact ⟨by omega, rfl⟩
   ·rintro ⟨i, out, g, c⟩ ⟨hi, ho⟩
    refine aSeq ?_
    refine aReg ?_
    refine sp pB ?_
    refine oNil ?_
    refine aSeq ?_
    refine aCondDec rfl (fun c28 => ?_) (fun c28 => ?_)
    ·skip
     refine aSkip ?_
     refine aSeq ?_
     refine aBlock ?_
     refine aSeq ?_
     obtain ⟨x, hx⟩ : ∃ z, l[i]? = some z := ⟨_, List.getElem?_eq_getElem (by omega)⟩
     have hcl := catS_len (i + 1) hb
     rw [catS_step hx, List.length_append, ← ho] at hcl
     refine aReg ?_
     first | refine sp (pIx es_60) ?_ | (refine obtSN 25 27 rfl rfl (by omega) (fun x29 hx29 => ?_); refine sp (pIs es_60 hx29) ?_) | (refine obtS 25 27 rfl rfl (by omega) (by omega) (fun x29 hx29 => ?_); refine sp (pIs es_60 hx29) ?_) | refine sp (pIo es_60) ?_
     refine sr (rS1 ty_39) ?_
     refine sp pMa ?_
     refine oNil ?_
     refine aReg ?_
     refine sp pM ?_
     refine sp pM ?_
     refine sa ?_
     first | refine oAppT _ rfl rfl (by repeat constructor) (.inl rfl) el_39 sl_39 (fun g33 k33 => ?_) | refine oAppT _ rfl rfl (by repeat constructor) (srcOwn rfl (by repeat constructor) (by first | rfl | simp)) el_39 sl_39 (fun g33 k33 => ?_)
     refine sp pMa ?_
     refine oNil ?_
     refine aReg ?_
     refine sp pAd ?_
     refine sp pM ?_
     refine oNil ?_
     refine ⟨(i + 1, _, _, _), ?_, by (try dsimp only); omega, ⟨gInt rfl (by first | rfl | omega | simp), gLen rfl (by first | rfl | simp | (simp; omega)), rfl, rfl, trivial⟩, _, (by repeat constructor)⟩
     exact ⟨by omega, by rw [catS_step hx, ← ho]⟩
    ·skip
     refine aExit rfl ?_
     refine aSeq ?_
     refine aReg ?_
     refine sp pM ?_
     refine sp pMa ?_
     refine oNil ?_
     refine aRet ?_
     refine finOwn rfl ?_
     obtain rfl : i = l.length := by omega
     rw [ho, List.take_length]
/- api.Wire] -/
set_option maxRecDepth 100000 in
set_option maxHeartbeats 400000 in
theorem index_Wi {f : FuncId} {caps : List AV} {p : Wi → Bool} (hf : ∀ x : Wi, Triple Tryd.prog f ([AV.agg (wirC x)] ++ caps) [] (Is (.v (.bool (p x))) [])) (l : List Wi) (hl : l.length ≤ 1000000) : Triple Tryd.prog 48 [.sl 5 (l.map wirC), .fn (.func f) caps] [] (Is (.v (.int .i64 (idxF p l))) []) := by
 refine triple_of Tryd.func48 rfl (by kernel_rfl) rfl (by simp) ?_
 refine aSeq ?_
 refine aReg ?_
 refine sp pMa ?_
 refine oNil ?_
 refine aSeq ?_
 refine aSeq ?_
 refine aReg ?_
 refine sp pM ?_
 refine sp (by first | exact pLm sl_22 | exact pLs sl_22) ?_
 refine sp pM ?_
 refine oNil ?_
 refine aBlock ?_
 refine loopF (α := Nat) (kept := [(0, _), (1, _), (7, _)]) (fun i => i ≤ l.length ∧ ∀ y ∈ l.take i, p y = false) (fun i => [(8, .int i)]) (fun i => []) (fun i => l.length - i) 0 ?_ ⟨gInt rfl (by first | rfl | omega | simp), rfl, rfl, rfl, trivial⟩ (by repeat constructor) ?_
 ·skip
  exact ⟨by omega, fun y hy => by simp at hy⟩
 ·rintro i ⟨hi, hv⟩
  refine aSeq ?_
  refine aReg ?_
  refine sp pB ?_
  refine oNil ?_
  refine aSeq ?_
  refine aCondDec rfl (fun c9 => ?_) (fun c9 => ?_)
  ·skip
   refine aSkip ?_
   refine aSeq ?_
   refine aBlock ?_
   refine aSeq ?_
   refine aReg ?_
   refine sp pM ?_
   refine sp pMa ?_
   refine oNil ?_
   refine aSeq ?_
   obtain ⟨x, hx⟩ : ∃ x, l[i]? = some x := ⟨_, List.getElem?_eq_getElem (by omega)⟩
   refine aReg ?_
   refine sp pM ?_
   refine sp pM ?_
   refine sp pM ?_
   first | refine sp (pIx es_22) ?_ | (refine obtSN 12 13 rfl rfl (by omega) (fun x14 hx14 => ?_); refine sp (pIs es_22 hx14) ?_) | (refine obtS 12 13 rfl rfl (by omega) (by omega) (fun x14 hx14 => ?_); refine sp (pIs es_22 hx14) ?_) | refine sp (pIo es_22) ?_
   refine sr (by first | exact rSW ty_38 rfl | exact rSA ty_38) ?_
   refine sq ?_
   refine cv rfl rfl rfl (lents_refl _) (hf x) ?_
   refine oNil ?_
   refine aCond rfl (fun c16 => ?_) (fun c16 => ?_)
   ·skip
    refine aSeq ?_
    refine aReg ?_
    refine sp pM ?_
    refine sp pMa ?_
    refine oNil ?_
    refine aRet ?_
    refine finIs rfl ?_
    show AV.int _ = AV.int _
    rw [(idxF_at hv hx (by simp_all)).1]
   ·skip
    refine aSkip ?_
    refine aReg ?_
    refine sp pAd ?_
    refine sp pM ?_
    refine oNil ?_
    refine ⟨i + 1, ?_, by (try dsimp only); omega, ⟨gInt rfl (by first | rfl | omega | simp), rfl, rfl, rfl, trivial⟩, _, (by repeat constructor)⟩
    refine ⟨by omega, fun y hy => ?_⟩
    rw [take_step hx] at hy
    rcases List.mem_append.1 hy with hy | hy
    ·exact hv y hy
    ·rw [List.mem_singleton.1 hy]; simp_all
  ·skip
   refine aExit rfl ?_
   refine aSeq ?_
   refine aReg ?_
   refine sp pMa ?_
   refine oNil ?_
   refine aRet ?_
   refine finIs rfl ?_
   show AV.int _ = AV.int _
   rw [take_all (by omega)] at hv
   rw [(idxF_no hv).1]
/- api.Wire] -/
set_option maxRecDepth 100000 in
set_option maxHeartbeats 400000 in
theorem contains_Wi {f : FuncId} {caps : List AV} {p : Wi → Bool} (hf : ∀ x : Wi, Triple Tryd.prog f ([AV.agg (wirC x)] ++ caps) [] (Is (.v (.bool (p x))) [])) (l : List Wi) (hl : l.length ≤ 1000000) : Triple Tryd.prog 31 [.sl 5 (l.map wirC), .fn (.func f) caps] [] (Is (.v (.bool (l.any p))) []) := by
 refine triple_of Tryd.func31 rfl (by kernel_rfl) rfl (by simp) ?_
 refine aSeq ?_
 refine aReg ?_
 refine sp pMa ?_
 refine oNil ?_
 refine aSeq ?_
 refine aReg ?_
 refine sp pM ?_
 refine sp pM ?_
 refine sq ?_
 refine cv rfl rfl rfl (lents_refl _) (index_Wi hf l hl) ?_
 refine sp pB ?_
 refine sp pMa ?_
 refine oNil ?_
 refine aRet ?_
 refine finIs rfl ?_
 rw [← anyR_idx]
 rfl
/- config.how -/
set_option maxRecDepth 100000 in
set_option maxHeartbeats 400000 in
theorem conf_how {u : Bool} : Triple Tryd.prog 21 [.v (.bool u)] [] (Is (strA (howS u)) []) := by
 refine triple_of Tryd.func21 rfl (by kernel_rfl) rfl (by simp) ?_
 refine aSeq ?_
 refine aReg ?_
 refine sp pMa ?_
 refine oNil ?_
 refine aSeq ?_
 refine aSeq ?_
 refine aReg ?_
 refine sp pM ?_
 refine oNil ?_
 refine aCond rfl (fun c3 => ?_) (fun c3 => ?_)
 ·skip
  refine aSeq ?_
  refine aReg ?_
  refine sp pMa ?_
  refine oNil ?_
  refine aRet ?_
  refine finIs rfl ?_
  rw [show u = true by simp_all]
  rfl
 ·skip
  refine aSkip ?_
  refine aSeq ?_
  refine aReg ?_
  refine sp pMa ?_
  refine oNil ?_
  refine aRet ?_
  refine finIs rfl ?_
  rw [show u = false by simp_all]
  rfl
/- config.nums -/
set_option maxRecDepth 100000 in
set_option maxHeartbeats 1000000 in
theorem conf_nums {l : List Int} (G : Gl) (hl : l.length ≤ 1000) (hb : ∀ x ∈ l, -9223372036854775808 ≤ x ∧ x ≤ 9223372036854775807) : Triple Tryd.prog 20 [.sl 1 (l.map intA)] [.know 1 (powO G.tp G.zp)] (Own 9 1 ((l.map itoa).map strC) [.know 1 (powO G.tp G.zp)]) := by
 refine triple_of Tryd.func20 rfl (by kernel_rfl) rfl (by simp) ?_
 refine aSeq ?_
 refine aReg ?_
 refine sp pMa ?_
 refine oNil ?_
 refine aSeq ?_
 refine aReg ?_
 refine sp pMa ?_
 refine oNil ?_
 refine aSeq ?_
 refine aSeq ?_
 refine aWeak (weak_nil 9 1) ?_
 refine aReg ?_
 refine sp pM ?_
 refine sp (by first | exact pLm sl_62 | exact pLs sl_62) ?_
 refine sp pM ?_
 refine oNil ?_
 refine aBlock ?_
 refine loopF (α := Nat × List SBs × Option Nat × Nat) (kept := [(6, _), (7, _)]) (fun (i, out, g, c) => i ≤ l.length ∧ out = (l.take i).map itoa) (fun (i, out, g, c) => [(8, .int i), (3, .v (slV g out.length c))]) (fun (i, out, g, c) => [.sl g c 9 1 (out.map strC)]) (fun (i, out, g, c) => l.length - i) (0, [], _, _) ?_ ⟨gInt rfl (by first | rfl | omega | simp), gLen rfl (by first | rfl | simp | (simp; omega)), rfl, rfl, trivial⟩ (by repeat constructor) ?_
 ·skip
  exact ⟨by omega, rfl⟩
 ·rintro ⟨i, out, g, c⟩ ⟨hi, ho⟩
  refine aSeq ?_
  refine aReg ?_
  refine sp pB ?_
  refine oNil ?_
  refine aSeq ?_
  refine aCondDec rfl (fun c9 => ?_) (fun c9 => ?_)
  ·skip
   refine aSkip ?_
   refine aSeq ?_
   refine aBlock ?_
   refine aSeq ?_
   obtain ⟨x, hx⟩ : ∃ z, l[i]? = some z := ⟨_, List.getElem?_eq_getElem (by omega)⟩
   have hxb := hb x (List.mem_of_getElem? hx)
   refine aReg ?_
   first | refine sp (pIx es_62) ?_ | (refine obtSN 6 8 rfl rfl (by omega) (fun x10 hx10 => ?_); refine sp (pIs es_62 hx10) ?_) | (refine obtS 6 8 rfl rfl (by omega) (by omega) (fun x10 hx10 => ?_); refine sp (pIs es_62 hx10) ?_) | refine sp (pIo es_62) ?_
   refine sr (rS1 ty_3) ?_
   refine sp pMa ?_
   refine oNil ?_
   have hol : out.length ≤ 1000 := by rw [ho, List.length_map, List.length_take]; omega
   refine aReg ?_
   refine sp pM ?_
   refine sp pM ?_
   refine sa ?_
   refine cai rfl rfl rfl (str_Itoa (n := x) G hxb.1 hxb.2) ?_
   refine sq ?_
   refine qLit (l := [_]) rfl rfl (by decide) us_39 ty_9 ze_9 rfl (by decide) (by decide) rfl rfl rfl (fun b15 => ?_)
   refine sa ?_
   refine oAppT ([itoa x] : List SBs) rfl rfl (by repeat constructor) (srcOwn rfl (by repeat constructor) rfl) el_39 sl_39 (fun g16 k16 => ?_)
   refine sp pMa ?_
   refine oNil ?_
   refine aReg ?_
   refine sp pAd ?_
   refine sp pM ?_
   refine oNil ?_
   refine ⟨(i + 1, _, _, _), ?_, by (try dsimp only); omega, ⟨gInt rfl (by first | rfl | omega | simp), gLen rfl (by first | rfl | simp | (simp; omega)), rfl, rfl, trivial⟩, _, (by repeat constructor)⟩
   exact ⟨by omega, by rw [take_step hx, List.map_append, ← ho]; rfl⟩
  ·skip
   refine aExit rfl ?_
   refine aSeq ?_
   refine aReg ?_
   refine sp pM ?_
   refine sp pMa ?_
   refine oNil ?_
   refine aRet ?_
   refine finOwn rfl ?_
   have ho2 : out = l.map itoa := by rw [ho, take_all (by omega)]
   rw [← ho2]
/- config.may$1 -/
set_option maxRecDepth 100000 in
set_option maxHeartbeats 400000 in
theorem conf_may1 {n : Int} {w : Wi} : Triple Tryd.prog 32 [.agg (wirC w), .sp [.int n]] [] (Is (.v (.bool (decide (n < w.b)))) []) := by
 refine triple_of Tryd.func32 rfl (by kernel_rfl) rfl (by simp) ?_
 refine aSeq ?_
 refine aReg ?_
 refine sq ?_
 refine qBox rfl rfl (by decide) rfl rfl (fun b2 => ?_)
 refine sp pMa ?_
 refine oNil ?_
 refine aSeq ?_
 refine aReg ?_
 refine sp (pFb fd_38_1) ?_
 refine sr (rB1 ty_3) ?_
 refine sr (rS1 ty_3) ?_
 refine sp pB ?_
 refine sp pMa ?_
 refine oNil ?_
 refine aRet ?_
 refine finIs rfl ?_
 rfl
/- config.may -/
set_option maxRecDepth 100000 in
set_option maxHeartbeats 2000000 in
theorem conf_may {n s : Int} {l : List Wi} (hl : l.length ≤ 1000000) : Triple Tryd.prog 17 [.int n, .int s, .sl 5 (l.map wirC)] [] (Is (.v (.bool (mayP n s l))) []) := by
 refine triple_of Tryd.func17 rfl (by kernel_rfl) rfl (by simp) ?_
 refine aSeq ?_
 refine aReg ?_
 refine sq ?_
 refine qBox rfl rfl (by decide) rfl rfl (fun b3 => ?_)
 refine sp pMa ?_
 refine oNil ?_
 refine aSeq ?_
 refine aWeak (weak_deep (k := 3) (b := .sp [.int n]) rfl (.cons .hd .nil) (.sp List.mem_cons_self Deep.refl (.row .nil))) ?_
 refine aReg ?_
 refine sr (rS1 ty_3) ?_
 refine sp pB ?_
 refine sp pM ?_
 refine oSplitDec 9 rfl (fun c9 => ?_) (fun c9 => ?_)
 ·skip
  refine gr (rS1 ty_3) ?_
  refine gp pB ?_
  refine sp pK ?_
  refine sp pM ?_
  refine oSplitDec 13 rfl (fun c13 => ?_) (fun c13 => ?_)
  ·skip
   refine gp pM ?_
   refine gp pB ?_
   refine sp pK ?_
   refine sp pM ?_
   refine oSplitDec 17 rfl (fun c17 => ?_) (fun c17 => ?_)
   ·skip
    refine gp pM ?_
    refine gp pB ?_
    refine sp pK ?_
    refine sp pM ?_
    refine oSplitDec 21 rfl (fun c21 => ?_) (fun c21 => ?_)
    ·skip
     refine gp pM ?_
     refine ga ?_
     refine (cv rfl rfl rfl (lents_refl _) (live_Check (l := l) (by omega)) ?_).op
     refine gp pB ?_
     refine sp pK ?_
     refine sp pM ?_
     refine oSplitEq 26 rfl (fun c26 => ?_) (fun c26 => ?_)
     ·skip
      refine gp pM ?_
      refine gp (pFn rfl rfl) ?_
      refine ga ?_
      refine (cv rfl rfl rfl (lents_refl _) (contains_Wi (f := 32) (caps := [.sp [.int n]]) (p := fun w => decide (n < w.b)) (fun x => conf_may1) l hl) ?_).op
      refine gp pNo ?_
      refine sp pK ?_
      refine sp pMa ?_
      refine oNil ?_
      refine aRet ?_
      refine finIs rfl ?_
      first
        | (have hw : wiresB l = true := by cases hw : wiresB l <;> simp_all
           have hM : mayP n s l = !l.any fun w => decide (n < w.b) := by
             unfold mayP
             rw [all_may, hw, decide_eq_true (show 1 ≤ n by omega), decide_eq_true (show n ≤ 64 by omega), decide_eq_true (show 6 ≤ s by omega), decide_eq_true (show s ≤ 1024 by omega)]
             rfl
           rw [hM]
           rfl)
        | (have hM : mayP n s l = false := by
             unfold mayP
             cases hw : wiresB l <;> simp_all <;> omega
           rw [hM]
           rfl)
     ·skip
      refine gf ?_
      refine gf ?_
      refine gf ?_
      refine gf ?_
      refine sp pK ?_
      refine sp pMa ?_
      refine oNil ?_
      refine aRet ?_
      refine finIs rfl ?_
      first
        | (have hw : wiresB l = true := by cases hw : wiresB l <;> simp_all
           have hM : mayP n s l = !l.any fun w => decide (n < w.b) := by
             unfold mayP
             rw [all_may, hw, decide_eq_true (show 1 ≤ n by omega), decide_eq_true (show n ≤ 64 by omega), decide_eq_true (show 6 ≤ s by omega), decide_eq_true (show s ≤ 1024 by omega)]
             rfl
           rw [hM]
           rfl)
        | (have hM : mayP n s l = false := by
             unfold mayP
             cases hw : wiresB l <;> simp_all <;> omega
           rw [hM]
           rfl)
    ·skip
     refine gf ?_
     refine gf ?_
     refine gf ?_
     refine sp pK ?_
     refine sp pM ?_
     refine gf ?_
     refine gf ?_
     refine gf ?_
     refine gf ?_
     refine sp pK ?_
     refine sp pMa ?_
     refine oNil ?_
     refine aRet ?_
     refine finIs rfl ?_
     first
       | (have hw : wiresB l = true := by cases hw : wiresB l <;> simp_all
          have hM : mayP n s l = !l.any fun w => decide (n < w.b) := by
            unfold mayP
            rw [all_may, hw, decide_eq_true (show 1 ≤ n by omega), decide_eq_true (show n ≤ 64 by omega), decide_eq_true (show 6 ≤ s by omega), decide_eq_true (show s ≤ 1024 by omega)]
            rfl
          rw [hM]
          rfl)
       | (have hM : mayP n s l = false := by
            unfold mayP
            cases hw : wiresB l <;> simp_all <;> omega
          rw [hM]
          rfl)
   ·skip
    refine gf ?_
    refine gf ?_
    refine sp pK ?_
    refine sp pM ?_
    refine gf ?_
    refine gf ?_
    refine gf ?_
    refine sp pK ?_
    refine sp pM ?_
    refine gf ?_
    refine gf ?_
    refine gf ?_
    refine gf ?_
    refine sp pK ?_
    refine sp pMa ?_
    refine oNil ?_
    refine aRet ?_
    refine finIs rfl ?_
    first
      | (have hw : wiresB l = true := by cases hw : wiresB l <;> simp_all
         have hM : mayP n s l = !l.any fun w => decide (n < w.b) := by
           unfold mayP
           rw [all_may, hw, decide_eq_true (show 1 ≤ n by omega), decide_eq_true (show n ≤ 64 by omega), decide_eq_true (show 6 ≤ s by omega), decide_eq_true (show s ≤ 1024 by omega)]
           rfl
         rw [hM]
         rfl)
      | (have hM : mayP n s l = false := by
           unfold mayP
           cases hw : wiresB l <;> simp_all <;> omega
         rw [hM]
         rfl)
  ·skip
   refine gf ?_
   refine gf ?_
   refine sp pK ?_
   refine sp pM ?_
   refine gf ?_
   refine gf ?_
   refine sp pK ?_
   refine sp pM ?_
   refine gf ?_
   refine gf ?_
   refine gf ?_
   refine sp pK ?_
   refine sp pM ?_
   refine gf ?_
   refine gf ?_
   refine gf ?_
   refine gf ?_
   refine sp pK ?_
   refine sp pMa ?_
   refine oNil ?_
   refine aRet ?_
   refine finIs rfl ?_
   first
     | (have hw : wiresB l = true := by cases hw : wiresB l <;> simp_all
        have hM : mayP n s l = !l.any fun w => decide (n < w.b) := by
          unfold mayP
          rw [all_may, hw, decide_eq_true (show 1 ≤ n by omega), decide_eq_true (show n ≤ 64 by omega), decide_eq_true (show 6 ≤ s by omega), decide_eq_true (show s ≤ 1024 by omega)]
          rfl
        rw [hM]
        rfl)
     | (have hM : mayP n s l = false := by
          unfold mayP
          cases hw : wiresB l <;> simp_all <;> omega
        rw [hM]
        rfl)
 ·skip
  refine gf ?_
  refine gf ?_
  refine sp pK ?_
  refine sp pM ?_
  refine gf ?_
  refine gf ?_
  refine sp pK ?_
  refine sp pM ?_
  refine gf ?_
  refine gf ?_
  refine sp pK ?_
  refine sp pM ?_
  refine gf ?_
  refine gf ?_
  refine gf ?_
  refine sp pK ?_
  refine sp pM ?_
  refine gf ?_
  refine gf ?_
  refine gf ?_
  refine gf ?_
  refine sp pK ?_
  refine sp pMa ?_
  refine oNil ?_
  refine aRet ?_
  refine finIs rfl ?_
  first
    | (have hw : wiresB l = true := by cases hw : wiresB l <;> simp_all
       have hM : mayP n s l = !l.any fun w => decide (n < w.b) := by
         unfold mayP
         rw [all_may, hw, decide_eq_true (show 1 ≤ n by omega), decide_eq_true (show n ≤ 64 by omega), decide_eq_true (show 6 ≤ s by omega), decide_eq_true (show s ≤ 1024 by omega)]
         rfl
       rw [hM]
       rfl)
    | (have hM : mayP n s l = false := by
         unfold mayP
         cases hw : wiresB l <;> simp_all <;> omega
       rw [hM]
       rfl)
end A
end Go.Proofs.YtgdfppjapnpcgaaDoor
