/- What functions of the program compute: forest40f -/
import Derived.Test.YtkgemkadebgeoaaBforest40e
import Derived.Test.YtkgemkadebgeoaaProg
import Derived.KernelRfl
set_option linter.unusedVariables false
set_option linter.unusedSimpArgs false
namespace Go.Proofs.Ytkgemkadebgeoaa
namespace A

theorem ze_139 : zeroOf Try.prog 139 = some (.agg #[.int .i64 0, .int .i64 0, .int .i64 0, .int .i64 0, .int .i64 0, .int .i64 0, .int .i64 0, .int .i64 0, .int .i64 0, .int .i64 0, .int .i64 0, .int .i64 0, .int .i64 0, .int .i64 0, .int .i64 0, .int .i64 0, .int .i64 0, .int .i64 0, .int .i64 0, .int .i64 0, .int .i64 0, .int .i64 0, .int .i64 0, .int .i64 0, .int .i64 0, .int .i64 0, .int .i64 0, .int .i64 0, .int .i64 0, .int .i64 0, .int .i64 0, .int .i64 0, .int .i64 0, .int .i64 0, .int .i64 0, .int .i64 0, .int .i64 0, .int .i64 0, .int .i64 0, .int .i64 0, .int .i64 0, .int .i64 0, .int .i64 0, .int .i64 0, .int .i64 0, .int .i64 0, .int .i64 0, .int .i64 0, .int .i64 0, .int .i64 0, .int .i64 0, .int .i64 0, .int .i64 0, .int .i64 0, .int .i64 0, .int .i64 0, .int .i64 0, .int .i64 0, .int .i64 0, .int .i64 0, .int .i64 0, .int .i64 0, .int .i64 0, .int .i64 0, .int .i64 0]) := by kernel_rfl
/- forest.sets).join -/
set_option maxRecDepth 100000 in
set_option maxHeartbeats 400000 in
theorem forest_join (sb : Nat) {E : Edge → Prop} {s : Int → Int} (u : UF E s) {e : Edge} (he : EOk e) : Triple Try.prog 83 [.v (.pointer (some ⟨sb, 0, none⟩)), .int e.a, .int e.b] [.box sb (arrF 65 (fun x => [inA x]) s)] (fun q h' => ∃ v s', q = .v (.bool v) ∧ h' = [.box sb (arrF 65 (fun x => [inA x]) s')] ∧ UF (fun z => E z ∨ z = e) s' ∧ (v = true ↔ ¬ Conn E e.a e.b)) := by
  have he' := he
  unfold EOk at he'
  obtain ⟨d, p⟩ := u.pot
  refine triple_of Try.func83 rfl (by kernel_rfl) rfl (by simp) ?_
  refine aSeq ?_
  refine aReg ?_
  refine sp pMa ?_
  refine oNil ?_
  refine aSeq ?_
  refine aReg ?_
  refine sp pM ?_
  refine sp pM ?_
  refine sa ?_
  refine ca rfl rfl rfl (forest_find sb d s p e.a (by omega) (by omega)) ?_
  rintro _ _ ⟨x, s1, rfl, rfl, hx, p1, hr1⟩
  refine sp pM ?_
  refine sp pM ?_
  refine sa ?_
  refine ca rfl rfl rfl (forest_find sb d s1 p1 e.b (by omega) (by omega)) ?_
  rintro _ _ ⟨y, s2, rfl, rfl, hy, p2, hr2⟩
  refine sp pMa ?_
  refine sp pMa ?_
  refine oNil ?_
  refine aSeq ?_
  have hx2 : Root s2 e.a x := (hr2 _ _ (by omega) (by omega)).2 ((hr1 _ _ (by omega) (by omega)).2 hx)
  have hy2 : Root s2 e.b y := (hr2 _ _ (by omega) (by omega)).2 hy
  have hxr := hx2.rng p2 (by omega) (by omega)
  have hyr := hy2.rng p2 (by omega) (by omega)
  have u2 := u.same ⟨d, p2⟩ (fun a r h0 h1 => (hr2 a r h0 h1).trans (hr1 a r h0 h1))
  refine aReg ?_
  refine sp pM ?_
  refine sp pM ?_
  refine sp pM ?_
  refine sp pNv ?_
  refine sp (pIa ar_139) ?_
  refine sa ?_
  first | refine oAr rfl rfl rfl (by repeat constructor) ty_3 ?_ | refine oArL rfl rfl rfl (by repeat constructor) ty_3 ?_ | refine oArR rfl rfl rfl (by repeat constructor) (by first | rfl | exact arrF_len one_len) ty_3 ?_
  refine oNil ?_
  refine aSeq ?_
  refine aReg ?_
  refine sp pM ?_
  refine sp pM ?_
  refine sp pB ?_
  refine sp pMa ?_
  refine oNil ?_
  refine aRet ?_
  refine ⟨_, [_], [], rfl, .cons .hd .nil, x != y, updF s2 x y, rfl, rfl, ?_, ?_⟩
  · by_cases hxy : x = y
    · subst hxy; exact join_same u2 he hx2 hy2
    · exact join_new u2 he hx2 hy2 hxy
  · rw [← u2.conn e.a e.b (by omega) (by omega) (by omega) (by omega), bne_iff_ne]
    constructor
    · rintro h ⟨r, h1, h2⟩
      exact h ((hx2.det h1).trans (h2.det hy2))
    · intro h e1
      subst e1
      exact h ⟨_, hx2, hy2⟩

def srtE_ren : Go.Shelf.Ren := ⟨fun | 6 => 78 | 15 => 106 | 14 => 105 | 28 => 131 | 29 => 132 | 20 => 123 | 21 => 124 | 22 => 125 | 23 => 126 | 24 => 127 | 25 => 128 | 26 => 129 | 27 => 130 | 46 => 143 | 47 => 144 | 48 => 145 | 49 => 146 | 50 => 147 | 57 => 167 | n => n, fun | 22 => 56 | 24 => 64 | 25 => 143 | 3 => 3 | 39 => 51 | 0 => 0 | 53 => 27 | 55 => 60 | 4 => 4 | 46 => 198 | 45 => 197 | 50 => 36 | 5 => 5 | 9 => 9 | 66 => 215 | 70 => 219 | 76 => 233 | 77 => 234 | n => n, fun | n => n⟩
theorem srtE : Go.Proofs.SlLaysF0.n6 Try.prog srtE_ren := {
  mixed := by kernel_rfl,
  f6 := ⟨"slices.SortFunc[[]waymark/api.Edge,waymark/api.Edge]", by decide, Try.func78.trans (congrArg some (by kernel_rfl))⟩,
  f14 := ⟨"slices.pdqsortCmpFunc[waymark/api.Edge]", by decide, Try.func105.trans (congrArg some (by kernel_rfl))⟩,
  f15 := Try.func106.trans (congrArg some (by kernel_rfl)),
  f20 := ⟨"slices.insertionSortCmpFunc[waymark/api.Edge]", by decide, Try.func123.trans (congrArg some (by kernel_rfl))⟩,
  f21 := ⟨"slices.heapSortCmpFunc[waymark/api.Edge]", by decide, Try.func124.trans (congrArg some (by kernel_rfl))⟩,
  f22 := ⟨"slices.breakPatternsCmpFunc[waymark/api.Edge]", by decide, Try.func125.trans (congrArg some (by kernel_rfl))⟩,
  f23 := ⟨"slices.choosePivotCmpFunc[waymark/api.Edge]", by decide, Try.func126.trans (congrArg some (by kernel_rfl))⟩,
  f24 := ⟨"slices.reverseRangeCmpFunc[waymark/api.Edge]", by decide, Try.func127.trans (congrArg some (by kernel_rfl))⟩,
  f25 := ⟨"slices.partialInsertionSortCmpFunc[waymark/api.Edge]", by decide, Try.func128.trans (congrArg some (by kernel_rfl))⟩,
  f26 := ⟨"slices.partitionEqualCmpFunc[waymark/api.Edge]", by decide, Try.func129.trans (congrArg some (by kernel_rfl))⟩,
  f27 := ⟨"slices.partitionCmpFunc[waymark/api.Edge]", by decide, Try.func130.trans (congrArg some (by kernel_rfl))⟩,
  f28 := Try.func131.trans (congrArg some (by kernel_rfl)),
  f29 := Try.func132.trans (congrArg some (by kernel_rfl)),
  f46 := ⟨"slices.siftDownCmpFunc[waymark/api.Edge]", by decide, Try.func143.trans (congrArg some (by kernel_rfl))⟩,
  f47 := Try.func144.trans (congrArg some (by kernel_rfl)),
  f48 := Try.func145.trans (congrArg some (by kernel_rfl)),
  f49 := ⟨"slices.medianAdjacentCmpFunc[waymark/api.Edge]", by decide, Try.func146.trans (congrArg some (by kernel_rfl))⟩,
  f50 := ⟨"slices.medianCmpFunc[waymark/api.Edge]", by decide, Try.func147.trans (congrArg some (by kernel_rfl))⟩,
  f57 := ⟨"slices.order2CmpFunc[waymark/api.Edge]", by decide, Try.func167.trans (congrArg some (by kernel_rfl))⟩,
  t0 := Try.underlying0,
  a0 := Try.isAgg0,
  z0 := Try.sizeOf0,
  v0 := Try.zeroValue0,
  t3 := Try.underlying3,
  a3 := Try.isAgg3,
  z3 := Try.sizeOf3,
  v3 := Try.zeroValue3,
  t4 := Try.underlying4,
  a4 := Try.isAgg4,
  z4 := Try.sizeOf4,
  v4 := Try.zeroValue4,
  t5 := Try.underlying5,
  a5 := Try.isAgg5,
  z5 := Try.sizeOf5,
  v5 := Try.zeroValue5,
  t9 := Try.underlying9,
  a9 := Try.isAgg9,
  z9 := Try.sizeOf9,
  v9 := Try.zeroValue9,
  t22 := Try.underlying56,
  a22 := Try.isAgg56,
  z22 := Try.sizeOf56,
  v22 := Try.zeroValue56,
  t25 := Try.underlying143,
  a25 := Try.isAgg143,
  z25 := Try.sizeOf143,
  v25 := Try.zeroValue143,
  t39 := Try.underlying51,
  a39 := Try.isAgg51,
  z39 := Try.sizeOf51,
  v39 := Try.zeroValue51,
  t45 := Try.underlying197,
  a45 := Try.isAgg197,
  z45 := Try.sizeOf197,
  v45 := Try.zeroValue197,
  t46 := Try.underlying198,
  a46 := Try.isAgg198,
  z46 := Try.sizeOf198,
  v46 := Try.zeroValue198,
  t50 := Try.underlying36,
  a50 := Try.isAgg36,
  z50 := Try.sizeOf36,
  v50 := Try.zeroValue36,
  t53 := Try.underlying27,
  a53 := Try.isAgg27,
  z53 := Try.sizeOf27,
  v53 := Try.zeroValue27,
  t55 := Try.underlying60,
  a55 := Try.isAgg60,
  z55 := Try.sizeOf60,
  v55 := Try.zeroValue60,
  t66 := Try.underlying215,
  a66 := Try.isAgg215,
  z66 := Try.sizeOf215,
  v66 := Try.zeroValue215,
  t70 := Try.underlying219,
  a70 := Try.isAgg219,
  z70 := Try.sizeOf219,
  v70 := Try.zeroValue219,
  t76 := Try.underlying233,
  a76 := Try.isAgg233,
  z76 := Try.sizeOf233,
  v76 := Try.zeroValue233,
  t77 := Try.underlying234,
  a77 := Try.isAgg234,
  z77 := Try.sizeOf234,
  v77 := Try.zeroValue234 }

/- forest.Of$1 -/
def forest_Of1_r1_T : Bool × List (List Nat × List Nat) := (true, [([], []), ([0], [0]), ([], []), ([2], [2]), ([1, 3], [1, 3]), ([], []), ([], []), ([5, 6, 4], [5, 6]), ([4, 7], [4, 7]), ([8, 7], [8]), ([9, 9, 0, 1, 2, 3, 4, 5, 6, 7, 8, 9], [9])])
def forest_Of1_r1_B : List Nat := [0, 1, 0, 4, 15, 0, 0, 127, 255, 511, 1023]
theorem forest_Of1_r1_t : Go.Proofs.YtkgemkadebgeoaaW.PrintLast.rtab .any (Go.Proofs.YtkgemkadebgeoaaW.PrintLast.opsOf Try.f79 1) = forest_Of1_r1_T := by kernel_rfl
theorem forest_Of1_r1_b : Go.Proofs.YtkgemkadebgeoaaW.PrintLast.waitsOk forest_Of1_r1_T.2 forest_Of1_r1_B = true := by kernel_rfl
set_option maxRecDepth 100000 in
set_option maxHeartbeats 400000 in
theorem forest_Of1 {a b : Edge} : Triple Try.prog 79 [.agg (edgeC a), .agg (edgeC b)] [] (Is (.v (.int .i64 (cheapE a b))) []) := by
  refine triple_of Try.func79 rfl (by kernel_rfl) rfl (by simp) ?_
  refine aSeq ?_
  refine aReg ?_
  refine sq ?_
  refine qBox rfl rfl (by decide) rfl rfl (fun b2 => ?_)
  refine sq ?_
  refine qBox rfl rfl (by decide) rfl rfl (fun b3 => ?_)
  refine sp pMa ?_
  refine oNil ?_
  refine aSeq ?_
  refine aDrawT forest_Of1_r1_t forest_Of1_r1_b [] 11 #[false, false, false, false, false, false, false, false, false, false, false] (by kernel_rfl) rfl rfl (fun HT => ?_)
  refine dp HT 0 rfl (pFb fd_64_2) ?_
  refine dr HT 1 rfl (rB1 ty_3) ?_
  refine dp HT 2 rfl (pFb fd_64_2) ?_
  refine dr HT 3 rfl (rB1 ty_3) ?_
  refine dr HT 5 rfl (by first | exact rBWa ty_64 | exact rBW ty_64 | exact rBA ty_64) ?_
  refine dr HT 6 rfl (by first | exact rBWa ty_64 | exact rBW ty_64 | exact rBA ty_64) ?_
  refine dGo ?_
  refine e1 HT 4 rfl ?_
  refine cv rfl rfl rfl (lents_refl _) cmp_Compare ?_
  refine e1 HT 7 rfl ?_
  refine cv rfl rfl rfl (lents_refl _) forest_order ?_
  refine e1 HT 8 rfl ?_
  refine qLit (l := [_, _]) rfl rfl (by decide) us_103 ty_3 ze_3 rfl (by decide) (by decide) rfl rfl rfl (fun b13 => ?_)
  refine e1 HT 9 rfl ?_
  refine cv rfl rfl rfl (by repeat (first | exact .nil | refine .cons (.sl (by repeat (first | exact List.mem_cons_self | apply List.mem_cons_of_mem)) (by first | rfl | simp)) ?_ | refine .cons (.same _) ?_)) (cmp_Or [cmpI a.c b.c, orderE a b]) ?_
  refine ePure (i := 10) #[true, true, true, true, true, true, true, true, true, true, true] rfl rfl rfl (HT.any (by kernel_rfl)) (by exact pMa) (by decide) ?_
  refine eE HT ?_
  clear HT
  refine aRet ?_
  refine finIs rfl ?_
  rfl

theorem hb_srtE : HasBody Try.prog 78 := ⟨_, Try.func78, by kernel_rfl, rfl⟩
theorem hb_of1 : HasBody Try.prog 79 := ⟨_, Try.func79, by kernel_rfl, rfl⟩
theorem hb_ordE : HasBody Try.prog 82 := ⟨_, Try.func82, by kernel_rfl, rfl⟩

def encE (e : Edge) : List Value := [.int .i64 e.a, .int .i64 e.b, .int .i64 e.c]

theorem sort_cheap (g : Option Nat) (c : Nat) (l : List Edge) (hl : l.length ≤ 1000000) : Triple Try.prog 78 [.v (slV g l.length c), .fn (.func 79) []] [.sl g c 64 3 (l.map edgeC)] (fun r h' => ∃ ts : List Edge, ts.Perm l ∧ ts.Pairwise (fun x y => Go.Proofs.ltOf cheapE y x = false) ∧ r = .tup [] ∧ h' = [.sl g c 64 3 (ts.map edgeC)]) :=
  triple_sortFunc (P := Try.prog) (k := 3) srtE rfl hb_srtE rfl ty_64 (by decide) encE (fun _ => rfl) (fun _ => rfl) (fun e v hv => by simp [encE] at hv; rcases hv with rfl | rfl | rfl <;> rfl) cheapE swo_cheap (fun x y => forest_Of1 (a := x) (b := y)) hb_of1 g c 64 l (by omega)

theorem sort_order (g : Option Nat) (c : Nat) (l : List Edge) (hl : l.length ≤ 1000000) : Triple Try.prog 78 [.v (slV g l.length c), .fn (.func 82) []] [.sl g c 64 3 (l.map edgeC)] (fun r h' => ∃ ts : List Edge, ts.Perm l ∧ ts.Pairwise (fun x y => Go.Proofs.ltOf orderE y x = false) ∧ r = .tup [] ∧ h' = [.sl g c 64 3 (ts.map edgeC)]) :=
  triple_sortFunc (P := Try.prog) (k := 3) srtE rfl hb_srtE rfl ty_64 (by decide) encE (fun _ => rfl) (fun _ => rfl) (fun e v hv => by simp [encE] at hv; rcases hv with rfl | rfl | rfl <;> rfl) orderE swo_order (fun x y => forest_order (a := x) (b := y)) hb_ordE g c 64 l (by omega)

theorem uf_step {ts : List Edge} {i : Nat} {e : Edge} {s : Int → Int} (h : ts[i]? = some e) (u : UF (fun z => z ∈ ts.take i ∨ z = e) s) : UF (· ∈ ts.take (i + 1)) s := by
  have : (fun z => z ∈ ts.take i ∨ z = e) = (· ∈ ts.take (i + 1)) := by
    funext z
    rw [take_step h]
    simp
  rwa [this] at u
theorem split_at {ts : List Edge} {i : Nat} {e : Edge} (h : ts[i]? = some e) : ts = ts.take i ++ e :: ts.drop (i + 1) := by
  rw [← drop_step h, List.take_append_drop]

/- forest.Of -/
set_option maxRecDepth 100000 in
set_option maxHeartbeats 1000000 in
theorem forest_Of {l : List Edge} (hl : l.length ≤ 1000000 := by omega) : Triple Try.prog 28 [.sl 3 (l.map edgeC)] [] (Own 64 3 ((if edgesB none l then l.filter (A.inF l) else []).map edgeC) []) := by
  refine triple_of Try.func28 rfl (by kernel_rfl) rfl (by simp) ?_
  refine aSeq ?_
  refine aReg ?_
  refine sp pMa ?_
  refine oNil ?_
  refine aSeq ?_
  refine aSeq ?_
  refine aReg ?_
  refine sp pM ?_
  refine sq ?_
  refine cv rfl rfl rfl (lents_refl _) forest_Check ?_
  refine sp pB ?_
  refine oNil ?_
  refine aCondNe rfl (fun c11 => ?_) (fun c11 => ?_)
  · skip
    refine aSeq ?_
    refine aWeak (weak_nil 64 3) ?_
    refine aReg ?_
    refine sp pMa ?_
    refine oNil ?_
    refine aRet ?_
    refine finOwn rfl ?_
    rw [if_neg (by simp_all)]
    rfl
  · skip
    refine aSkip ?_
    refine aSeq ?_
    have hyes : edgesB none l = true := by simp_all
    refine aReg ?_
    refine sq ?_
    refine qAlloc rfl rfl (by decide) ze_139 rfl (fun b3 => ?_)
    refine oNil ?_
    refine aSeq ?_
    refine aSeq ?_
    refine aWeak (weak_box (b := b3) (cs' := arrF 65 (fun x => [inA x]) (fun _ => 0)) (by repeat constructor) (by kernel_rfl)) ?_
    refine aReg ?_
    refine sp pM ?_
    refine oNil ?_
    refine aBlock ?_
    refine loopF (α := Nat × (Int → Int)) (kept := [(0, _), (3, _)]) (fun (i, f) => i ≤ 65 ∧ ∀ n : Int, 0 ≤ n → n < i → f n = n) (fun (i, f) => [(12, .int i)]) (fun (i, f) => [.box b3 (arrF 65 (fun x => [inA x]) f)]) (fun (i, f) => 65 - i) (0, _) ?_ ⟨gInt rfl (by first | rfl | omega | simp), rfl, rfl, trivial⟩ (by repeat constructor) ?_
    · skip
      exact ⟨by omega, fun n h0 h1 => by omega⟩
    · rintro ⟨i, f⟩ ⟨hi, hf⟩
      refine aSeq ?_
      refine aReg ?_
      refine sp pB ?_
      refine oNil ?_
      refine aSeq ?_
      refine aCondDec rfl (fun c13 => ?_) (fun c13 => ?_)
      · skip
        refine aSkip ?_
        refine aSeq ?_
        refine aBlock ?_
        refine aSeq ?_
        refine aReg ?_
        refine sp pM ?_
        refine sp pMa ?_
        refine oNil ?_
        refine aReg ?_
        refine sp pM ?_
        refine sp pM ?_
        refine sp (pIa ar_139) ?_
        refine sa ?_
        first | refine oAr rfl rfl rfl (by repeat constructor) ty_3 ?_ | refine oArL rfl rfl rfl (by repeat constructor) ty_3 ?_ | refine oArR rfl rfl rfl (by repeat constructor) (by first | rfl | exact arrF_len one_len) ty_3 ?_
        refine oNil ?_
        refine aReg ?_
        refine sp pAd ?_
        refine sp pM ?_
        refine oNil ?_
        refine ⟨(i + 1, _), ?_, by (try dsimp only); omega, ⟨gInt rfl (by first | rfl | omega | simp), rfl, rfl, trivial⟩, _, (by repeat constructor)⟩
        refine ⟨by omega, fun n h0 h1 => ?_⟩
        by_cases hn : n = i
        · subst hn; rw [updF_same]
        · rw [updF_ne _ _ hn]; exact hf n h0 (by omega)
      · skip
        refine aExit rfl ?_
        refine aSeq ?_
        refine aReg ?_
        refine sp pM ?_
        refine sa ?_
        first | refine coM rfl rfl rfl clone_edges (fun g20 k20 => ?_) | refine co rfl rfl rfl clone_edges (fun g20 k20 => ?_)
        refine sp pMa ?_
        refine oNil ?_
        refine aSeq ?_
        refine aReg ?_
        refine sp pM ?_
        refine sa ?_
        refine ca rfl rfl rfl (sort_cheap g20 k20 l hl) ?_
        rintro _ _ ⟨ts, hperm, hsort, rfl, rfl⟩
        refine oNil ?_
        refine aSeq ?_
        refine aReg ?_
        refine sp pMa ?_
        refine oNil ?_
        refine aSeq ?_
        refine aSeq ?_
        have hc := cheap_of hyes hperm hsort
        have hlen := hperm.length_eq
        refine aWeak (weak_nil 64 3) ?_
        refine aWeak (weak_settle (k := 5) rfl (by repeat constructor) (by first | rfl | (simp; done) | (simp; omega) | (simp_all; done))) ?_
        refine aReg ?_
        refine sp pM ?_
        refine sp (by first | exact pLm sl_56 | exact pLs sl_56) ?_
        refine sp pM ?_
        refine oNil ?_
        refine aBlock ?_
        refine loopF (α := Nat × List Edge × (Int → Int) × Option Nat × Nat) (kept := [(3, _), (23, _), (24, _)]) (fun (i, out, s, g, c) => i ≤ ts.length ∧ UF (· ∈ ts.take i) s ∧ out = (ts.take i).filter (A.inF l)) (fun (i, out, s, g, c) => [(25, .int i), (6, .v (slV g out.length c))]) (fun (i, out, s, g, c) => [.sl g c 64 3 (out.map edgeC), .box b3 (arrF 65 (fun x => [inA x]) s)]) (fun (i, out, s, g, c) => ts.length - i) (0, [], _, _, _) ?_ ⟨gInt rfl (by first | rfl | omega | simp), gLen rfl (by first | rfl | simp | (simp; omega)), rfl, rfl, rfl, trivial⟩ (by repeat constructor) ?_
        · skip
          refine ⟨by omega, ?_, rfl⟩
          rw [List.take_zero]
          have := uf_init (f := f) (fun n h0 h1 => hf n h0 (by omega))
          simpa using this
        · rintro ⟨i, out, s, g, c⟩ ⟨hi, u, ho⟩
          refine aSeq ?_
          refine aReg ?_
          refine sp pB ?_
          refine oNil ?_
          refine aSeq ?_
          refine aCondDec rfl (fun c26 => ?_) (fun c26 => ?_)
          · skip
            refine aSkip ?_
            refine aSeq ?_
            refine aBlock ?_
            refine aSeq ?_
            refine aReg ?_
            first | refine sp (pIx es_56) ?_ | (refine obtSN 23 25 rfl rfl (by omega) (fun x27 hx27 => ?_); refine sp (pIs es_56 hx27) ?_) | (refine obtS 23 25 rfl rfl (by omega) (by omega) (fun x27 hx27 => ?_); refine sp (pIs es_56 hx27) ?_) | refine sp (pIo es_56) ?_
            refine sr (by first | exact rSW ty_64 rfl | exact rSA ty_64) ?_
            refine sq ?_
            refine qAlloc rfl rfl (by decide) ze_64 rfl (fun b8 => ?_)
            refine sa ?_
            refine oStW rfl rfl rfl rfl (by repeat constructor) ty_64 ?_
            refine oNil ?_
            refine aSeq ?_
            refine aReg ?_
            refine sp (pFb fd_64_0) ?_
            refine sr (rB1 ty_3) ?_
            refine sp (pFb fd_64_1) ?_
            refine sr (rB1 ty_3) ?_
            refine sa ?_
            refine ca rfl rfl rfl (forest_join b3 u (e := x27) (hc.ok' (List.mem_of_getElem? hx27))) ?_
            rintro _ _ ⟨v, s2, rfl, rfl, u2, hv⟩
            refine oNil ?_
            refine aCond rfl (fun c33 => ?_) (fun c33 => ?_)
            · skip
              refine aReg ?_
              refine sp pM ?_
              refine sr (by first | exact rBWa ty_64 | exact rBW ty_64 | exact rBA ty_64) ?_
              refine sq ?_
              refine qLit (l := [_]) rfl rfl (by decide) us_56 ty_64 ze_64 rfl (by decide) (by decide) rfl rfl rfl (fun b36 => ?_)
              have hol : out.length ≤ ts.length := by rw [ho]; exact Nat.le_trans (List.length_filter_le _ _) (by rw [List.length_take]; omega)
              refine sa ?_
              refine oAppT [_] rfl rfl (by repeat constructor) (srcOwn rfl (by repeat constructor) rfl) el_56 sl_56 (fun g37 k37 => ?_)
              refine sp pMa ?_
              refine oNil ?_
              refine aReg ?_
              refine sp pAd ?_
              refine sp pM ?_
              refine oNil ?_
              refine ⟨(i + 1, _, _, _, _), ?_, by (try dsimp only); omega, ⟨gInt rfl (by first | rfl | omega | simp), gLen rfl (by first | rfl | simp | (simp; omega)), rfl, rfl, rfl, trivial⟩, _, (by repeat constructor)⟩
              have hin := hc.inF (split_at hx27)
              refine ⟨by omega, uf_step hx27 u2, ?_⟩
              first
                | (rw [filter_yes hx27 (hin.2 (hv.1 (by assumption))), ← ho]; done)
                | (rw [filter_no hx27 (by cases hq : A.inF l x27 with | false => rfl | true => have := hv.2 (hin.1 hq); simp_all), ← ho]; done)
            · skip
              refine aSkip ?_
              refine aReg ?_
              refine sp pAd ?_
              refine sp pM ?_
              refine oNil ?_
              refine ⟨(i + 1, _, _, _, _), ?_, by (try dsimp only); omega, ⟨gInt rfl (by first | rfl | omega | simp), gLen rfl (by first | rfl | simp | (simp; omega)), rfl, rfl, rfl, trivial⟩, _, (by repeat constructor)⟩
              have hin := hc.inF (split_at hx27)
              refine ⟨by omega, uf_step hx27 u2, ?_⟩
              first
                | (rw [filter_yes hx27 (hin.2 (hv.1 (by assumption))), ← ho]; done)
                | (rw [filter_no hx27 (by cases hq : A.inF l x27 with | false => rfl | true => have := hv.2 (hin.1 hq); simp_all), ← ho]; done)
          · skip
            refine aExit rfl ?_
            refine aSeq ?_
            obtain rfl : i = ts.length := by omega
            rw [List.take_length] at ho
            have hol : out.length ≤ ts.length := by rw [ho]; exact List.length_filter_le _ _
            refine aReg ?_
            refine sp pM ?_
            refine sa ?_
            refine ca rfl rfl rfl (sort_order g c out (by omega)) ?_
            rintro _ _ ⟨us, hpu, hsu, rfl, rfl⟩
            refine oNil ?_
            refine aSeq ?_
            have hul := hpu.length_eq
            refine aReg ?_
            refine sp pM ?_
            refine sp pMa ?_
            refine oNil ?_
            refine aRet ?_
            refine finOwn rfl ?_
            rw [ho] at hpu
            rw [if_pos hyes, sorted_of hyes hperm hpu hsu]

end A
end Go.Proofs.Ytkgemkadebgeoaa
