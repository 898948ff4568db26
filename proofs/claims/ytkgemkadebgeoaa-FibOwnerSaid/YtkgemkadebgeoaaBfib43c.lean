/- What functions of the program compute: fib43c -/
import Derived.Test.YtkgemkadebgeoaaBfib43b
import Derived.Test.YtkgemkadebgeoaaProg
import Derived.KernelRfl
set_option linter.unusedVariables false
set_option linter.unusedSimpArgs false
namespace Go.Proofs.Ytkgemkadebgeoaa
namespace A

theorem fd_170_2 : fieldOf Try.prog 170 2 = some (2, 1, false) := by kernel_rfl
def srtN_ren : Go.Shelf.Ren := ⟨fun | 6 => 117 | 15 => 106 | 14 => 139 | 28 => 131 | 29 => 132 | 20 => 157 | 21 => 158 | 22 => 159 | 23 => 160 | 24 => 161 | 25 => 162 | 26 => 163 | 27 => 164 | 46 => 171 | 47 => 144 | 48 => 145 | 49 => 172 | 50 => 173 | 57 => 175 | n => n, fun | 22 => 26 | 24 => 31 | 25 => 191 | 3 => 3 | 39 => 51 | 0 => 0 | 53 => 27 | 55 => 60 | 4 => 4 | 46 => 198 | 45 => 197 | 50 => 36 | 5 => 5 | 9 => 9 | 66 => 215 | 70 => 219 | 76 => 233 | 77 => 234 | n => n, fun | n => n⟩
theorem srtN : Go.Proofs.SlLaysF0.n6 Try.prog srtN_ren := {
  mixed := by kernel_rfl,
  f6 := ⟨"slices.SortFunc[[]waymark/api.Entry,waymark/api.Entry]", by decide, Try.func117.trans (congrArg some (by kernel_rfl))⟩,
  f14 := ⟨"slices.pdqsortCmpFunc[waymark/api.Entry]", by decide, Try.func139.trans (congrArg some (by kernel_rfl))⟩,
  f15 := Try.func106.trans (congrArg some (by kernel_rfl)),
  f20 := ⟨"slices.insertionSortCmpFunc[waymark/api.Entry]", by decide, Try.func157.trans (congrArg some (by kernel_rfl))⟩,
  f21 := ⟨"slices.heapSortCmpFunc[waymark/api.Entry]", by decide, Try.func158.trans (congrArg some (by kernel_rfl))⟩,
  f22 := ⟨"slices.breakPatternsCmpFunc[waymark/api.Entry]", by decide, Try.func159.trans (congrArg some (by kernel_rfl))⟩,
  f23 := ⟨"slices.choosePivotCmpFunc[waymark/api.Entry]", by decide, Try.func160.trans (congrArg some (by kernel_rfl))⟩,
  f24 := ⟨"slices.reverseRangeCmpFunc[waymark/api.Entry]", by decide, Try.func161.trans (congrArg some (by kernel_rfl))⟩,
  f25 := ⟨"slices.partialInsertionSortCmpFunc[waymark/api.Entry]", by decide, Try.func162.trans (congrArg some (by kernel_rfl))⟩,
  f26 := ⟨"slices.partitionEqualCmpFunc[waymark/api.Entry]", by decide, Try.func163.trans (congrArg some (by kernel_rfl))⟩,
  f27 := ⟨"slices.partitionCmpFunc[waymark/api.Entry]", by decide, Try.func164.trans (congrArg some (by kernel_rfl))⟩,
  f28 := Try.func131.trans (congrArg some (by kernel_rfl)),
  f29 := Try.func132.trans (congrArg some (by kernel_rfl)),
  f46 := ⟨"slices.siftDownCmpFunc[waymark/api.Entry]", by decide, Try.func171.trans (congrArg some (by kernel_rfl))⟩,
  f47 := Try.func144.trans (congrArg some (by kernel_rfl)),
  f48 := Try.func145.trans (congrArg some (by kernel_rfl)),
  f49 := ⟨"slices.medianAdjacentCmpFunc[waymark/api.Entry]", by decide, Try.func172.trans (congrArg some (by kernel_rfl))⟩,
  f50 := ⟨"slices.medianCmpFunc[waymark/api.Entry]", by decide, Try.func173.trans (congrArg some (by kernel_rfl))⟩,
  f57 := ⟨"slices.order2CmpFunc[waymark/api.Entry]", by decide, Try.func175.trans (congrArg some (by kernel_rfl))⟩,
  t0 := Try.underlying0,
  a0 := Try.isAgg0,
  z0 := Try.sizeOf0,
  v0 := Try.zeroValue0,
  t3 := Try.underlying3,
  a3 := Try.isAgg3,
  z3 := Try.sizeOf3,
  v3 := Try.zeroValue3,
  t4 := Try.underlying4,
  a4 := Try.isAgg4,
  z4 := Try.sizeOf4,
  v4 := Try.zeroValue4,
  t5 := Try.underlying5,
  a5 := Try.isAgg5,
  z5 := Try.sizeOf5,
  v5 := Try.zeroValue5,
  t9 := Try.underlying9,
  a9 := Try.isAgg9,
  z9 := Try.sizeOf9,
  v9 := Try.zeroValue9,
  t22 := Try.underlying26,
  a22 := Try.isAgg26,
  z22 := Try.sizeOf26,
  v22 := Try.zeroValue26,
  t25 := Try.underlying191,
  a25 := Try.isAgg191,
  z25 := Try.sizeOf191,
  v25 := Try.zeroValue191,
  t39 := Try.underlying51,
  a39 := Try.isAgg51,
  z39 := Try.sizeOf51,
  v39 := Try.zeroValue51,
  t45 := Try.underlying197,
  a45 := Try.isAgg197,
  z45 := Try.sizeOf197,
  v45 := Try.zeroValue197,
  t46 := Try.underlying198,
  a46 := Try.isAgg198,
  z46 := Try.sizeOf198,
  v46 := Try.zeroValue198,
  t50 := Try.underlying36,
  a50 := Try.isAgg36,
  z50 := Try.sizeOf36,
  v50 := Try.zeroValue36,
  t53 := Try.underlying27,
  a53 := Try.isAgg27,
  z53 := Try.sizeOf27,
  v53 := Try.zeroValue27,
  t55 := Try.underlying60,
  a55 := Try.isAgg60,
  z55 := Try.sizeOf60,
  v55 := Try.zeroValue60,
  t66 := Try.underlying215,
  a66 := Try.isAgg215,
  z66 := Try.sizeOf215,
  v66 := Try.zeroValue215,
  t70 := Try.underlying219,
  a70 := Try.isAgg219,
  z70 := Try.sizeOf219,
  v70 := Try.zeroValue219,
  t76 := Try.underlying233,
  a76 := Try.isAgg233,
  z76 := Try.sizeOf233,
  v76 := Try.zeroValue233,
  t77 := Try.underlying234,
  a77 := Try.isAgg234,
  z77 := Try.sizeOf234,
  v77 := Try.zeroValue234 }

/- fib.table$1 -/
def fib_table1_r1_T : Bool × List (List Nat × List Nat) := (true, [([], []), ([0], [0]), ([1], [1]), ([], []), ([3], [3]), ([4], [4]), ([2, 5], [2, 5]), ([], []), ([7], [7]), ([8], [8]), ([], []), ([10], [10]), ([11], [11]), ([9, 12, 6], [9, 12]), ([6, 13], [6, 13]), ([14, 13], [14]), ([15, 15, 0, 1, 2, 3, 4, 5, 6, 7, 8, 9, 10, 11, 12, 13, 14, 15], [15])])
def fib_table1_r1_B : List Nat := [0, 1, 3, 0, 8, 24, 63, 0, 128, 384, 0, 1024, 3072, 8191, 16383, 32767, 65535]
theorem fib_table1_r1_t : Go.Proofs.YtkgemkadebgeoaaW.PrintLast.rtab .any (Go.Proofs.YtkgemkadebgeoaaW.PrintLast.opsOf Try.f118 1) = fib_table1_r1_T := by kernel_rfl
theorem fib_table1_r1_b : Go.Proofs.YtkgemkadebgeoaaW.PrintLast.waitsOk fib_table1_r1_T.2 fib_table1_r1_B = true := by kernel_rfl
set_option maxRecDepth 100000 in
set_option maxHeartbeats 400000 in
theorem fib_table1 {a b : Ent} : Triple Try.prog 118 [.agg (entC a), .agg (entC b)] [] (Is (.v (.int .i64 (entLt a b))) []) := by
  refine triple_of Try.func118 rfl (by kernel_rfl) rfl (by simp) ?_
  refine aSeq ?_
  refine aReg ?_
  refine sq ?_
  refine qBox rfl rfl (by decide) rfl rfl (fun b2 => ?_)
  refine sq ?_
  refine qBox rfl rfl (by decide) rfl rfl (fun b3 => ?_)
  refine sp pMa ?_
  refine oNil ?_
  refine aSeq ?_
  refine aDrawT fib_table1_r1_t fib_table1_r1_b [] 17 #[false, false, false, false, false, false, false, false, false, false, false, false, false, false, false, false, false] (by kernel_rfl) rfl rfl (fun HT => ?_)
  refine dp HT 0 rfl (pFb fd_31_0) ?_
  refine dp HT 1 rfl (pFb fd_29_0) ?_
  refine dr HT 2 rfl (rB1 ty_27) ?_
  refine dp HT 3 rfl (pFb fd_31_0) ?_
  refine dp HT 4 rfl (pFb fd_29_0) ?_
  refine dr HT 5 rfl (rB1 ty_27) ?_
  refine dp HT 7 rfl (pFb fd_31_0) ?_
  refine dp HT 8 rfl (pFb fd_29_1) ?_
  refine dr HT 9 rfl (rB1 ty_3) ?_
  refine dp HT 10 rfl (pFb fd_31_0) ?_
  refine dp HT 11 rfl (pFb fd_29_1) ?_
  refine dr HT 12 rfl (rB1 ty_3) ?_
  refine dGo ?_
  refine e1 HT 6 rfl ?_
  refine cv rfl rfl rfl (lents_refl _) cmp_Compare_u32 ?_
  refine e1 HT 13 rfl ?_
  refine cv rfl rfl rfl (lents_refl _) cmp_Compare ?_
  refine e1 HT 14 rfl ?_
  refine qLit (l := [_, _]) rfl rfl (by decide) us_103 ty_3 ze_3 rfl (by decide) (by decide) rfl rfl rfl (fun b19 => ?_)
  refine e1 HT 15 rfl ?_
  refine cv rfl rfl rfl (by repeat (first | exact .nil | refine .cons (.sl (by repeat (first | exact List.mem_cons_self | apply List.mem_cons_of_mem)) (by first | rfl | simp)) ?_ | refine .cons (.same _) ?_)) (cmp_Or [cmpI a.b b.b, cmpI a.n b.n]) ?_
  refine ePure (i := 16) #[true, true, true, true, true, true, true, true, true, true, true, true, true, true, true, true, true] rfl rfl rfl (HT.any (by kernel_rfl)) (by exact pMa) (by decide) ?_
  refine eE HT ?_
  clear HT
  refine aRet ?_
  refine finIs rfl ?_
  rfl

/- fib.Make$1 -/
set_option maxRecDepth 100000 in
set_option maxHeartbeats 400000 in
theorem fib_Make1 {w : Way} : Triple Try.prog 101 [wayA w] [] (Is (.int w.via) []) := by
  refine triple_of Try.func101 rfl (by kernel_rfl) rfl (by simp) ?_
  refine aSeq ?_
  refine aReg ?_
  refine sq ?_
  refine qBox rfl rfl (by decide) rfl rfl (fun b1 => ?_)
  refine sp pMa ?_
  refine oNil ?_
  refine aSeq ?_
  refine aReg ?_
  refine sp (pFb fd_170_2) ?_
  refine sr (rB1 ty_3) ?_
  refine sp pMa ?_
  refine oNil ?_
  refine aRet ?_
  refine finIs rfl ?_
  rfl

/- fib.Owner$1 -/
set_option maxRecDepth 100000 in
set_option maxHeartbeats 400000 in
theorem fib_Owner1 {w : Way} : Triple Try.prog 103 [wayA w] [] (Is (.int w.nd) []) := by
  refine triple_of Try.func103 rfl (by kernel_rfl) rfl (by simp) ?_
  refine aSeq ?_
  refine aReg ?_
  refine sq ?_
  refine qBox rfl rfl (by decide) rfl rfl (fun b1 => ?_)
  refine sp pMa ?_
  refine oNil ?_
  refine aSeq ?_
  refine aReg ?_
  refine sp (pFb fd_170_1) ?_
  refine sr (rB1 ty_3) ?_
  refine sp pMa ?_
  refine oNil ?_
  refine aRet ?_
  refine finIs rfl ?_
  rfl

theorem hb_srtN : HasBody Try.prog 117 := ⟨_, Try.func117, by kernel_rfl, rfl⟩
theorem hb_tb1 : HasBody Try.prog 118 := ⟨_, Try.func118, by kernel_rfl, rfl⟩

def encN (e : Ent) : List Value := [.int .u32 (e.b : Int), .int .i64 (e.n : Int), .int .i64 e.tv]
instance : Inhabited Ent := ⟨⟨0, 0, 0⟩⟩
theorem entLt_lt {x y : Ent} : entLt x y < 0 ↔ x.b < y.b ∨ x.b = y.b ∧ x.n < y.n := by
  simp only [entLt, orI]
  have h1 := cmpI_ne (a := x.b) (b := y.b)
  have h2 := cmpI_lt (a := x.b) (b := y.b)
  have h3 := cmpI_ne (a := x.n) (b := y.n)
  have h4 := cmpI_lt (a := x.n) (b := y.n)
  split
  · omega
  · split <;> omega
theorem swo_ent : Go.Sort.SWO (Go.Proofs.ltOf entLt) where
  irrefl := fun x => by
    simp only [Go.Proofs.ltOf, decide_eq_false_iff_not]
    rw [entLt_lt]
    omega
  trans := fun x y z h1 h2 => by
    simp only [Go.Proofs.ltOf, decide_eq_true_eq] at *
    rw [entLt_lt] at *
    omega
  ntrans := fun x y z h1 h2 => by
    simp only [Go.Proofs.ltOf, decide_eq_false_iff_not] at *
    rw [entLt_lt] at *
    omega

theorem sort_ent (g : Option Nat) (c : Nat) (l : List Ent) (hl : l.length ≤ 1000000) : Triple Try.prog 117 [.v (slV g l.length c), .fn (.func 118) []] [.sl g c 31 3 (l.map entC)] (fun r h' => ∃ ts : List Ent, ts.Perm l ∧ ts.Pairwise (fun x y => Go.Proofs.ltOf entLt y x = false) ∧ r = .tup [] ∧ h' = [.sl g c 31 3 (ts.map entC)]) :=
  triple_sortFunc (P := Try.prog) (k := 3) srtN rfl hb_srtN rfl ty_31 (by decide) encN (fun _ => rfl) (fun _ => rfl) (fun e v hv => by simp [encN] at hv; rcases hv with rfl | rfl | rfl <;> rfl) entLt swo_ent (fun x y => fib_table1 (a := x) (b := y)) hb_tb1 g c 31 l (by omega)

theorem idx_perm {α β : Type} (f : α → β) {m : List α} {d : α} {idx : List Nat} (h : Idx m.length idx) (ha : ∀ i, i < m.length → i ∈ idx) : (idx.map fun i => f (m.getD i d)).Perm (m.map f) := by
  have h1 := (h.all ha).map fun i => f (m.getD i d)
  refine h1.trans (.of_eq ?_)
  apply List.ext_getElem?
  intro i
  simp only [List.getElem?_map]
  by_cases hi : i < m.length
  · rw [List.getElem?_range hi]
    simp [List.getD, List.getElem?_eq_getElem hi]
  · rw [List.getElem?_eq_none (by simp; omega), List.getElem?_eq_none (by omega)]
    rfl
def entB (tl : Way → Int) (m : List (PfxK × Way)) (i : Nat) : Ent := entW tl (m.getD i ((0, 0), ⟨0, 0, 0⟩))

/- fib.table -/
def fib_table_r5_T : Bool × List (List Nat × List Nat) := (true, [([], []), ([], []), ([], []), ([], []), ([2, 3], [2, 3]), ([1, 4], [1, 4]), ([5], [5]), ([0, 6, 4], [0, 6]), ([7, 7, 0, 1, 2, 3, 4, 5, 6, 7], [0, 7])])
def fib_table_r5_B : List Nat := [0, 0, 0, 0, 12, 30, 62, 127, 255]
theorem fib_table_r5_t : Go.Proofs.YtkgemkadebgeoaaW.PrintLast.rtab .any (Go.Proofs.YtkgemkadebgeoaaW.PrintLast.opsOf Try.f99 5) = fib_table_r5_T := by kernel_rfl
theorem fib_table_r5_b : Go.Proofs.YtkgemkadebgeoaaW.PrintLast.waitsOk fib_table_r5_T.2 fib_table_r5_B = true := by kernel_rfl
set_option maxRecDepth 100000 in
set_option maxHeartbeats 1000000 in
theorem fib_table {me : Int} {rs : List Rt} {cs : List E42} (b : Nat) {tf : FuncId} {tl : Way → Int} (ht : ∀ w : Way, Triple Try.prog tf [wayA w] [] (Is (.int (tl w)) [])) (hc : cs.length ≤ 1000) : Triple Try.prog 99 [.v (.map (some b)), .fn (.func tf) []] [.mapK b (kvKM pfxK wayA (bestM me rs cs))] (fun q h' => ∃ g c t, Tbl me rs cs tl t ∧ q = .v (slV g t.length c) ∧ h' = [.sl g c 31 3 (t.map entC), .mapK b (kvKM pfxK wayA (bestM me rs cs))]) := by
  have hml := bestM_len (me := me) (rs := rs) (cs := cs)
  refine triple_of Try.func99 rfl (by kernel_rfl) rfl (by simp) ?_
  refine aSeq ?_
  refine aReg ?_
  refine sp pMa ?_
  refine oNil ?_
  refine aSeq ?_
  refine aReg ?_
  refine sp pMa ?_
  refine oNil ?_
  refine aSeq ?_
  refine aSeq ?_
  refine aWeak (weak_nil 31 3) ?_
  refine aReg ?_
  refine sp pM ?_
  refine sa ?_
  refine oRangeK rfl rfl um_167 (fun r9 => ?_)
  refine oNil ?_
  refine aBlock ?_
  refine loopF (α := List Nat × List Ent × Option Nat × Nat) (kept := [(1, _), (9, _)]) (fun (idx, out, g, c) => Idx (bestM me rs cs).length idx ∧ out = idx.map (entB tl (bestM me rs cs))) (fun (idx, out, g, c) => [(5, .v (slV g out.length c))]) (fun (idx, out, g, c) => [.mapKIt b r9 (kvKM pfxK wayA (bestM me rs cs)) idx, .sl g c 31 3 (out.map entC)]) (fun (idx, out, g, c) => (bestM me rs cs).length - idx.length) ([], [], _, _) ?_ ⟨gLen rfl (by first | rfl | simp | (simp; omega)), rfl, rfl, trivial⟩ (by repeat constructor) ?_
  · skip
    exact ⟨Idx.nil, rfl⟩
  · rintro ⟨idx, out, g, c⟩ ⟨hix, ho⟩
    refine aSeq ?_
    refine aReg ?_
    refine sa ?_
    refine oNextK (kf := pfxK) (fun _ => rfl) rfl rfl (fun t10 ks10 ix10 hn10 => ?_)
    refine sp pX ?_
    refine oNil ?_
    refine aSeq ?_
    refine aCond rfl (fun c11 => ?_) (fun c11 => ?_)
    · skip
      refine aSkip ?_
      refine aBlock ?_
      refine aSeq ?_
      refine aReg ?_
      obtain ⟨j, p, hp, hni, rfl, rfl⟩ := hn10.yes c11
      obtain ⟨⟨pb, pn⟩, w⟩ := p
      obtain ⟨k, rfl, _⟩ := okP_nat (mem_bestM.1 (List.mem_of_getElem? hp)).1
      have hE : entB tl (bestM me rs cs) j = ⟨pb, k, tl w⟩ := by simp [entB, entW, List.getD, hp]
      have hol : out.length ≤ 1000 := by have := hix.len; rw [ho, List.length_map]; omega
      refine sr (rEntryK (kf := pfxK) (fun _ => rfl) rfl rfl hp) ?_
      refine sp pX ?_
      refine sp pX ?_
      refine sq ?_
      refine qAlloc rfl rfl (by decide) ze_29 rfl (fun b6 => ?_)
      refine sq ?_
      refine qAlloc rfl rfl (by decide) ze_170 rfl (fun b7 => ?_)
      refine sa ?_
      refine oStW rfl rfl rfl rfl (by repeat constructor) ty_29 ?_
      refine sa ?_
      refine oStW rfl rfl rfl rfl (by repeat constructor) ty_170 ?_
      refine oNil ?_
      refine aDrawT fib_table_r5_t fib_table_r5_b [7] 9 #[false, false, false, false, false, false, false, false, false] (by kernel_rfl) rfl rfl (fun HT => ?_)
      refine dp HT 0 rfl pM ?_
      refine dr HT 1 rfl (by first | exact rBWa ty_29 | exact rBW ty_29 | exact rBA ty_29) ?_
      refine dp HT 2 rfl pM ?_
      refine dr HT 3 rfl (by first | exact rBWa ty_170 | exact rBW ty_170 | exact rBA ty_170) ?_
      refine dGo ?_
      refine e1 HT 4 rfl ?_
      refine ci rfl rfl rfl (ht w) ?_
      refine ef HT 5 rfl (pBuild rfl st_31 ze_31 rfl rfl rfl rfl) ?_
      refine e1 HT 6 rfl ?_
      refine qLit (l := [_]) rfl rfl (by decide) us_26 ty_31 ze_31 rfl (by decide) (by decide) rfl rfl rfl (fun b21 => ?_)
      refine eLast ?_
      refine f1 HT 7 rfl ?_
      refine oAppT ([⟨pb, k, tl w⟩] : List Ent) rfl rfl (by repeat constructor) (srcOwn rfl (by repeat constructor) rfl) el_26 sl_26 (fun g22 k22 => ?_)
      refine fp HT 8 rfl pMa ?_
      refine fE HT ?_
      clear HT
      have hlt2 : (bestM me rs cs).length - (idx ++ [j]).length < (bestM me rs cs).length - idx.length := by have := hix.lt (len_get hp) hni; rw [List.length_append]; simp; omega
      refine ⟨(idx ++ [j], _, _, _), ?_, by (try dsimp only); exact hlt2, ⟨gLen rfl (by first | rfl | simp | (simp; omega)), rfl, rfl, trivial⟩, _, (by repeat constructor)⟩
      exact ⟨hix.add (len_get hp) hni, by rw [List.map_append, ← ho, List.map_singleton, hE]⟩
    · skip
      obtain ⟨rfl, e10, hall⟩ := hn10.no c11
      obtain rfl := e10.symm
      refine aWeak (weak_unmapK .hd) ?_
      refine aExit rfl ?_
      refine aSeq ?_
      refine aReg ?_
      refine sp pM ?_
      refine sa ?_
      refine ca rfl rfl rfl (sort_ent g c out (by have := hix.len; rw [ho]; simp; omega)) ?_
      rintro _ _ ⟨ts, hpm, hst, rfl, rfl⟩
      have htl : ts.length ≤ 1000 := by have := hix.len; rw [hpm.length_eq, ho, List.length_map]; omega
      refine oNil ?_
      refine aSeq ?_
      refine aReg ?_
      refine sp pM ?_
      refine sp pMa ?_
      refine oNil ?_
      refine aRet ?_
      refine ⟨_, [_, _], _, rfl, (by repeat constructor), g, c, ts, tbl_of (hpm.trans ?_) hst, ?_, rfl⟩
      · rw [ho]; exact idx_perm (entW tl) hix hall
      · rw [hpm.length_eq]; rfl

end A
end Go.Proofs.Ytkgemkadebgeoaa
