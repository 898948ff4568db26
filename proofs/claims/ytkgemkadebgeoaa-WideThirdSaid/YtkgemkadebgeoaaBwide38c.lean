/- What functions of the program compute: wide38c -/
import Derived.Test.YtkgemkadebgeoaaBwide38b
import Derived.Test.YtkgemkadebgeoaaProg
import Derived.KernelRfl
set_option linter.unusedVariables false
set_option linter.unusedSimpArgs false
namespace Go.Proofs.Ytkgemkadebgeoaa
namespace A

theorem ar_65 : arrOf Try.prog 65 = some (65, 1) := by kernel_rfl
theorem el_148 : elemOf Try.prog 148 = some (151, 2, 16) := by kernel_rfl
theorem es_148 : elemSize Try.prog 148 = some 2 := by kernel_rfl
theorem fd_151_0 : fieldOf Try.prog 151 0 = some (0, 1, false) := by kernel_rfl
theorem fd_151_1 : fieldOf Try.prog 151 1 = some (1, 1, false) := by kernel_rfl
theorem ik_3 : intKindOf Try.prog 3 = some .i64 := by kernel_rfl
theorem ik_60 : intKindOf Try.prog 60 = some .u64 := by kernel_rfl
theorem sl_148 : isSl Try.prog 148 = true := by kernel_rfl
theorem st_151 : structPlaces Try.prog 151 = some [(0, 1), (1, 1)] := by kernel_rfl
theorem ty_151 : tyOf Try.prog 151 = some (2, true) := by kernel_rfl
theorem ty_4 : tyOf Try.prog 4 = some (1, false) := by kernel_rfl
theorem ty_60 : tyOf Try.prog 60 = some (1, false) := by kernel_rfl
theorem ty_65 : tyOf Try.prog 65 = some (65, true) := by kernel_rfl
theorem ua_65 : Try.prog.underlying 65 = some (.array 65 4) := by kernel_rfl
theorem us_148 : Try.prog.underlying 148 = some (.slice 151) := by kernel_rfl
theorem ze_151 : zeroOf Try.prog 151 = some (.agg #[.int .u64 0, .int .i64 0]) := by kernel_rfl
theorem ze_65 : zeroOf Try.prog 65 = some (.agg #[.bool false, .bool false, .bool false, .bool false, .bool false, .bool false, .bool false, .bool false, .bool false, .bool false, .bool false, .bool false, .bool false, .bool false, .bool false, .bool false, .bool false, .bool false, .bool false, .bool false, .bool false, .bool false, .bool false, .bool false, .bool false, .bool false, .bool false, .bool false, .bool false, .bool false, .bool false, .bool false, .bool false, .bool false, .bool false, .bool false, .bool false, .bool false, .bool false, .bool false, .bool false, .bool false, .bool false, .bool false, .bool false, .bool false, .bool false, .bool false, .bool false, .bool false, .bool false, .bool false, .bool false, .bool false, .bool false, .bool false, .bool false, .bool false, .bool false, .bool false, .bool false, .bool false, .bool false, .bool false, .bool false]) := by kernel_rfl
/- wide.Widths -/
set_option maxRecDepth 100000 in
set_option maxHeartbeats 1000000 in
theorem wide_Widths {l : List Arc} {r : Int} (hll : l.length ≤ 1000000 := by omega) : Triple Try.prog 85 [.sl 3 (l.map arcC), .int r] [] (Own 151 2 ((if arcsB none l && decide (1 ≤ r) && decide (r ≤ 64) then wSpots l r else []).map spotC) []) := by
  refine triple_of Try.func85 rfl (by kernel_rfl) rfl (by simp) ?_
  refine aSeq ?_
  refine aReg ?_
  refine sp pMa ?_
  refine oNil ?_
  refine aSeq ?_
  refine aSeq ?_
  refine aReg ?_
  refine sp pM ?_
  refine sq ?_
  refine cv rfl rfl rfl (lents_refl _) graph_Check ?_
  refine sp pB ?_
  refine sp pM ?_
  refine oSplitNe 12 rfl (fun c12 => ?_) (fun c12 => ?_)
  · skip
    refine gf ?_
    refine gf ?_
    refine sp pK ?_
    refine sp pM ?_
    refine gf ?_
    refine gf ?_
    refine sp pK ?_
    refine oNil ?_
    refine aCondT rfl ?_
    refine aSeq ?_
    refine aWeak (weak_nil 151 2) ?_
    refine aReg ?_
    refine sp pMa ?_
    refine oNil ?_
    refine aRet ?_
    refine finOwn rfl ?_
    rw [if_neg (by first | (simp_all; done) | (simp_all; omega))]
    rfl
  · skip
    refine gp pM ?_
    refine gp pB ?_
    refine sp pK ?_
    refine sp pM ?_
    refine oSplitDec 16 rfl (fun c16 => ?_) (fun c16 => ?_)
    · skip
      refine gf ?_
      refine gf ?_
      refine sp pK ?_
      refine oNil ?_
      refine aCondT rfl ?_
      refine aSeq ?_
      refine aWeak (weak_nil 151 2) ?_
      refine aReg ?_
      refine sp pMa ?_
      refine oNil ?_
      refine aRet ?_
      refine finOwn rfl ?_
      rw [if_neg (by first | (simp_all; done) | (simp_all; omega))]
      rfl
    · skip
      refine gp pM ?_
      refine gp pB ?_
      refine sp pK ?_
      refine oNil ?_
      refine aCondDec rfl (fun c19 => ?_) (fun c19 => ?_)
      · skip
        refine aSeq ?_
        refine aWeak (weak_nil 151 2) ?_
        refine aReg ?_
        refine sp pMa ?_
        refine oNil ?_
        refine aRet ?_
        refine finOwn rfl ?_
        rw [if_neg (by first | (simp_all; done) | (simp_all; omega))]
        rfl
      · skip
        refine aSkip ?_
        refine aSeq ?_
        have hyes : arcsB none l = true := by simp_all
        have hl := arcs_ok hyes
        refine aWeak (weak_nil 151 2) ?_
        refine aReg ?_
        refine sp pMa ?_
        refine oNil ?_
        refine aSeq ?_
        refine aReg ?_
        refine sp pM ?_
        refine sp pM ?_
        refine sa ?_
        refine ca rfl rfl rfl (wide_widths hll hl (by omega) (by omega)) ?_
        rintro _ _ ⟨bw, m, rfl, rfl, hk⟩
        have hks := hk.sorted hl (by omega) (by omega)
        have hml := map_len hk.1 (fun v hv => by have h1 := (hk.2.1 v).1 hv; have := (wF_iff hl (by omega) (by omega) h1.1 (w := 1) (by omega)).1 (by omega); have := this.range hl; omega)
        refine sp pMa ?_
        refine oNil ?_
        refine aSeq ?_
        refine aSeq ?_
        refine aReg ?_
        refine sp pM ?_
        refine sa ?_
        refine ca rfl rfl rfl (keys_mii bw) ?_
        rintro _ _ ⟨pb, rfl, rfl⟩
        refine sa ?_
        refine cai rfl rfl rfl (sorted_int_s _ _ (kvM inA m) _ (keys1_mii_iter bw pb (kvM inA m)) (by rw [kvM_len]; omega)) ?_
        rw [kvM_keys, hks]
        refine sp (by first | exact pLm sl_103 | exact pLs sl_103 | exact pLv sl_103) ?_
        refine sp pM ?_
        refine oNil ?_
        refine aBlock ?_
        refine loopF (α := Nat × List Spot × Option Nat × Nat) (kept := [(6, _), (25, _), (26, _)]) (fun (i, out, g, c) => i ≤ (wKeys l r).length ∧ out = ((wKeys l r).take i).map fun k => ⟨wF l r k, k⟩) (fun (i, out, g, c) => [(27, .int i), (5, .v (slV g out.length c))]) (fun (i, out, g, c) => [.sl g c 151 2 (out.map spotC)]) (fun (i, out, g, c) => (wKeys l r).length - i) (0, [], _, _) ?_ ⟨gInt rfl (by first | rfl | omega | simp), gLen rfl (by first | rfl | simp | (simp; omega)), rfl, rfl, rfl, trivial⟩ (by repeat constructor) ?_
        · skip
          exact ⟨by omega, rfl⟩
        · rintro ⟨i, out, g, c⟩ ⟨hi, ho⟩
          refine aSeq ?_
          refine aReg ?_
          refine sp pB ?_
          refine oNil ?_
          refine aSeq ?_
          refine aCondDec rfl (fun c28 => ?_) (fun c28 => ?_)
          · skip
            refine aSkip ?_
            refine aSeq ?_
            refine aBlock ?_
            refine aSeq ?_
            refine aReg ?_
            first | refine sp (pIx es_103) ?_ | (refine obtSN 25 27 rfl rfl (by omega) (fun x29 hx29 => ?_); refine sp (pIs es_103 hx29) ?_) | (refine obtS 25 27 rfl rfl (by omega) (by omega) (fun x29 hx29 => ?_); refine sp (pIs es_103 hx29) ?_) | refine sp (pIo es_103) ?_
            refine sr (by first | exact rS1 ty_3 | exact rB1 ty_3 | exact rAr ty_3 | exact rArL ty_3 | exact rArR ty_3 (by first | rfl | exact arrF_len one_len)) ?_
            refine sp pMa ?_
            refine oNil ?_
            have hxm : x29 ∈ wKeys l r := List.mem_of_getElem? hx29
            have hxk : x29 ∈ mKeys m := by rw [← sortI_mem, hks]; exact hxm
            have hxv : (mGet m x29).getD 0 = wF l r x29 := hk.2.2 x29 hxk
            have hxr := wF_range hl r x29
            have hkl : (wKeys l r).length ≤ 65 := by rw [← hks, sortI_length, mKeys, List.length_map]; exact hml
            refine aReg ?_
            refine sp pM ?_
            refine sp pM ?_
            refine sp pM ?_
            refine sr (rMGi mo_183 ze_3) ?_
            refine sp (by first | exact pCvK ik_3 ik_60 | exact pConv rfl rfl ik_3 ik_60 rfl) ?_
            refine sp pM ?_
            refine sp (pBuild rfl st_151 ze_151 rfl rfl rfl rfl) ?_
            refine sq ?_
            refine qLit (l := [_]) rfl rfl (by decide) us_148 ty_151 ze_151 rfl (by decide) (by decide) rfl rfl rfl (fun b38 => ?_)
            have hol : out.length ≤ 65 := by rw [ho, List.length_map, List.length_take]; omega
            refine sa ?_
            refine oAppT ([⟨(mGet m x29).getD 0, x29⟩] : List Spot) rfl rfl (by repeat constructor) (srcOwn rfl (by repeat constructor) rfl) el_148 sl_148 (fun g39 k39 => ?_)
            refine sp pMa ?_
            refine oNil ?_
            refine aReg ?_
            refine sp pAd ?_
            refine sp pM ?_
            refine oNil ?_
            refine ⟨(i + 1, _, _, _), ?_, by (try dsimp only); omega, ⟨gInt rfl (by first | rfl | omega | simp), gLen rfl (by first | rfl | simp | (simp; omega)), rfl, rfl, rfl, trivial⟩, _, (by repeat constructor)⟩
            refine ⟨by omega, ?_⟩
            rw [take_step hx29, List.map_append, ← ho, hxv]
            rfl
          · skip
            refine aExit rfl ?_
            refine aSeq ?_
            refine aReg ?_
            refine sp pM ?_
            refine sp pMa ?_
            refine oNil ?_
            refine aRet ?_
            refine finOwn rfl ?_
            rw [if_pos (by first | (simp_all; done) | (simp_all; omega)), ho, take_all (by omega)]
            rfl

theorem wide_Widths_s {l : List Arc} {r : Int} (hll : l.length ≤ 1000000 := by omega) : Triple Try.prog 85 [.sl 3 (l.map arcC), .int r] [] (Is (.sl 2 ((if arcsB none l && decide (1 ≤ r) && decide (r ≤ 64) then wSpots l r else []).map spotC)) []) := (wide_Widths (l := l) (r := r) hll).settle
theorem wSpots_get {l : List Arc} {r : Int} {i : Nat} {s : Spot} (h : (wSpots l r)[i]? = some s) : s = ⟨wF l r s.n, s.n⟩ ∧ s.n ∈ wKeys l r := by
  unfold wSpots at h
  rw [List.getElem?_map, Option.map_eq_some_iff] at h
  obtain ⟨k, hk, rfl⟩ := h
  exact ⟨rfl, List.mem_of_getElem? hk⟩
theorem wSpots_len (l : List Arc) (r : Int) : (wSpots l r).length ≤ 65 := by
  unfold wSpots wKeys
  rw [List.length_map]
  refine Nat.le_trans (List.length_filter_le _ _) ?_
  simp
theorem wSpots_all {l : List Arc} (hl : ∀ a ∈ l, AOk a) {r v : Int} (h0 : 0 ≤ r) (h1 : r ≤ 64) (hv : v ≠ r) (h : ∀ s ∈ wSpots l r, s.n ≠ v) : wF l r v = 0 := by
  have h2 := wF_range hl r v
  apply Classical.byContradiction
  intro h3
  have := (wKeys_mem hl h0 h1 (v := v)).2 ⟨hv, by omega⟩
  exact h ⟨wF l r v, v⟩ (List.mem_map.2 ⟨v, this, rfl⟩) rfl

/- wide.Between -/
set_option maxRecDepth 100000 in
set_option maxHeartbeats 1000000 in
theorem wide_Between {l : List Arc} {r v : Int} (hll : l.length ≤ 1000000) (hok : arcsB none l = true) (h0 : 1 ≤ r) (h1 : r ≤ 64) : Triple Try.prog 39 [.sl 3 (l.map arcC), .int r, .int v] [] (Is (.v (.int .i64 (if v = r then 0 else wF l r v))) []) := by
  have hl := arcs_ok hok
  have hwl := wSpots_len l r
  refine triple_of Try.func39 rfl (by kernel_rfl) rfl (by simp) ?_
  refine aSeq ?_
  refine aReg ?_
  refine sp pMa ?_
  refine oNil ?_
  refine aSeq ?_
  refine aSeq ?_
  refine aReg ?_
  refine sp pM ?_
  refine sp pM ?_
  refine sq ?_
  refine ci rfl rfl rfl (wide_Widths_s (l := l) (r := r) hll) ?_
  rw [if_pos (show (arcsB none l && decide (1 ≤ r) && decide (r ≤ 64)) = true by simp [hok, h0, h1])]
  refine sp (by first | exact pLm sl_148 | exact pLs sl_148 | exact pLv sl_148) ?_
  refine sp pM ?_
  refine oNil ?_
  refine aBlock ?_
  refine loopF (α := Nat) (kept := [(2, _), (11, _), (12, _)]) (fun i => i ≤ (wSpots l r).length ∧ ∀ s ∈ (wSpots l r).take i, s.n ≠ v) (fun i => [(13, .int i)]) (fun i => []) (fun i => (wSpots l r).length - i) 0 ?_ ⟨gInt rfl (by first | rfl | omega | simp), rfl, rfl, rfl, trivial⟩ (by repeat constructor) ?_
  · skip
    exact ⟨by omega, fun s hs => by simp at hs⟩
  · rintro i ⟨hi, hn⟩
    refine aSeq ?_
    refine aReg ?_
    refine sp pB ?_
    refine oNil ?_
    refine aSeq ?_
    refine aCondDec rfl (fun c14 => ?_) (fun c14 => ?_)
    · skip
      refine aSkip ?_
      refine aSeq ?_
      refine aBlock ?_
      refine aSeq ?_
      refine aReg ?_
      first | refine sp (pIx es_148) ?_ | (refine obtSN 11 13 rfl rfl (by omega) (fun x15 hx15 => ?_); refine sp (pIs es_148 hx15) ?_) | (refine obtS 11 13 rfl rfl (by omega) (by omega) (fun x15 hx15 => ?_); refine sp (pIs es_148 hx15) ?_) | refine sp (pIo es_148) ?_
      refine sr (by first | exact rSW ty_151 rfl | exact rSA ty_151 | exact rBWa ty_151 | exact rBW ty_151 | exact rBA ty_151 | exact rArA ty_151 (fun _ => rfl)) ?_
      refine sq ?_
      refine qAlloc rfl rfl (by decide) ze_151 rfl (fun b8 => ?_)
      refine sa ?_
      refine oStW rfl rfl rfl rfl (by repeat constructor) ty_151 ?_
      refine oNil ?_
      refine aSeq ?_
      refine aReg ?_
      refine sp (pFb fd_151_1) ?_
      refine sr (rB1 ty_3) ?_
      refine sp pM ?_
      refine sp pB ?_
      refine oNil ?_
      refine aCondEq rfl (fun c20 => ?_) (fun c20 => ?_)
      · skip
        refine aSeq ?_
        obtain ⟨hx1, hx2⟩ := wSpots_get hx15
        have hxr := wF_range hl r x15.n
        have hxc : x15.c = wF l r x15.n := congrArg Spot.c hx1
        have hxk := (wKeys_mem hl (by omega) h1).1 hx2
        refine aReg ?_
        refine sp (pFb fd_151_0) ?_
        refine sr (rB1 ty_60) ?_
        refine sp (by first | exact pCvK ik_60 ik_3 | exact pConv rfl rfl ik_60 ik_3 rfl) ?_
        refine sp pMa ?_
        refine oNil ?_
        refine aRet ?_
        refine finIs rfl ?_
        have hxn : x15.n = v := by assumption
        rw [if_neg (by rw [← hxn]; exact hxk.1), ← hxn, ← hxc]
        rfl
      · skip
        refine aSkip ?_
        refine aReg ?_
        refine sp pAd ?_
        refine sp pM ?_
        refine oNil ?_
        refine ⟨i + 1, ?_, by (try dsimp only); omega, ⟨gInt rfl (by first | rfl | omega | simp), rfl, rfl, rfl, trivial⟩, _, (by repeat constructor)⟩
        refine ⟨by omega, fun s hs => ?_⟩
        rw [take_step hx15] at hs
        rcases List.mem_append.1 hs with hs | hs
        · exact hn s hs
        · rw [List.mem_singleton.1 hs]; assumption
    · skip
      refine aExit rfl ?_
      refine aSeq ?_
      refine aReg ?_
      refine sp pMa ?_
      refine oNil ?_
      refine aRet ?_
      refine finIs rfl ?_
      rw [take_all (by omega)] at hn
      by_cases hvr : v = r
      · rw [if_pos hvr]; rfl
      · rw [if_neg hvr, wSpots_all hl (by omega) h1 hvr hn]; rfl

/- waymarkref38.Reached -/
set_option maxRecDepth 100000 in
set_option maxHeartbeats 2000000 in
theorem ref38_Reached {l : List Arc} {r w : Int} (hl : l.length ≤ 1000000 := by omega) (hok : ∀ a ∈ l, AOk a) (h0 : 0 ≤ r := by omega) (h1 : r ≤ 64 := by omega) : Triple Try.prog 40 [.sl 3 (l.map arcC), .int r, .int w] [] (Is (.agg (arrF 65 (fun x => [boA x]) (reachW l w r))) []) := by
  refine triple_ofR Try.func40 rfl (by kernel_rfl) rfl (by simp) ?_
  refine aSeq ?_
  refine aReg ?_
  refine sq ?_
  refine qAlloc rfl rfl (by decide) ze_65 rfl (fun b6 => ?_)
  refine oNil ?_
  refine aSeq ?_
  refine aReg ?_
  refine sp (pBuildA0 rfl ua_65 ty_4 ze_65 rfl) ?_
  refine sq ?_
  refine qAlloc rfl rfl (by decide) ze_65 rfl (fun b7 => ?_)
  refine sa ?_
  refine oStW rfl rfl rfl rfl (by repeat constructor) ty_65 ?_
  refine oNil ?_
  refine aSeq ?_
  refine aWeak (weak_box (b := b7) (cs' := arrF 65 (fun x => [boA x]) (fun _ => false)) (by repeat constructor) (by kernel_rfl)) ?_
  refine aReg ?_
  refine sp pM ?_
  refine sp (pIa ar_65) ?_
  refine sa ?_
  first | refine oAr rfl rfl rfl (by repeat constructor) ty_4 ?_ | refine oArL rfl rfl rfl (by repeat constructor) ty_4 ?_ | refine oArR rfl rfl rfl (by repeat constructor) (by first | rfl | exact arrF_len one_len) ty_4 ?_ | refine oStB rfl rfl rfl rfl (by repeat constructor) ty_4 rfl (Nat.le_of_ble_eq_true rfl) rfl ?_
  refine oNil ?_
  refine aSeq ?_
  refine aReg ?_
  refine sp pMa ?_
  refine oNil ?_
  refine aSeq ?_
  refine aSeq ?_
  refine aReg ?_
  refine sp pMa ?_
  refine oNil ?_
  refine aBlock ?_
  refine loopF (α := Nat × (Int → Bool) × Bool) (kept := [(0, _), (2, _), (6, _), (7, _)]) (fun (q, f, t) => q ≤ 65 ∧ satG (wst w) l (65 - q) f = reachW l w r ∧ (t = false → rndG (wst w) l f = f)) (fun (q, f, t) => [(9, .int q), (8, .v (.bool t))]) (fun (q, f, t) => [.box b7 (arrF 65 (fun x => [boA x]) f)]) (fun (q, f, t) => 65 - q) (0, _, true) ?_ ⟨gInt rfl (by first | rfl | omega | simp), rfl, rfl, rfl, rfl, rfl, trivial⟩ (by repeat constructor) ?_
  · skip
    exact ⟨by omega, rfl, fun h => by cases h⟩
  · rintro ⟨q, f, t⟩ ⟨hr, hsat, hfx⟩
    refine aSeq ?_
    refine aSeq ?_
    refine aReg ?_
    refine sp pM ?_
    refine sp pB ?_
    refine sp pM ?_
    refine oSplitDec 16 rfl (fun c16 => ?_) (fun c16 => ?_)
    · skip
      refine gp pM ?_
      refine sp pK ?_
      refine oNil ?_
      refine aCond rfl (fun c18 => ?_) (fun c18 => ?_)
      · skip
        refine aSkip ?_
        refine aSeq ?_
        refine aBlock ?_
        refine aSeq ?_
        refine aReg ?_
        refine sp pMa ?_
        refine oNil ?_
        refine aSeq ?_
        refine aReg ?_
        refine sp pMa ?_
        refine oNil ?_
        refine aBlock ?_
        refine loopF (α := Nat × (Int → Bool) × Bool) (kept := [(0, _), (2, _), (6, _), (7, _), (9, _)]) (fun (i, g, t) => i ≤ l.length ∧ (l.drop i).foldl (wst w) g = rndG (wst w) l f ∧ (t = false → g = f)) (fun (i, g, t) => [(10, .int i), (8, .v (.bool t))]) (fun (i, g, t) => [.box b7 (arrF 65 (fun x => [boA x]) g)]) (fun (i, g, t) => l.length - i) (0, f, false) ?_ ⟨gInt rfl (by first | rfl | omega | simp), rfl, rfl, rfl, rfl, rfl, rfl, trivial⟩ (by repeat constructor) ?_
        · skip
          exact ⟨by omega, rfl, fun _ => rfl⟩
        · rintro ⟨i, g, t⟩ ⟨hi, hv, hch⟩
          refine aSeq ?_
          refine aSeq ?_
          refine aReg ?_
          refine sp pM ?_
          refine sp pM ?_
          refine sp (by first | exact pLm sl_68 | exact pLs sl_68) ?_
          refine sp pB ?_
          refine oNil ?_
          refine aCondDec rfl (fun c24 => ?_) (fun c24 => ?_)
          · skip
            refine aSkip ?_
            refine aSeq ?_
            refine aBlock ?_
            refine aSeq ?_
            obtain ⟨x, hx⟩ : ∃ x, l[i]? = some x := ⟨_, List.getElem?_eq_getElem (by omega)⟩
            have hxk := hok x (List.mem_of_getElem? hx)
            unfold AOk at hxk
            refine aReg ?_
            refine sp pM ?_
            refine sp pM ?_
            first | refine sp (pIx es_68) ?_ | (refine obtSN 27 28 rfl rfl (by omega) (fun x29 hx29 => ?_); refine sp (pIs es_68 hx29) ?_) | (refine obtS 27 28 rfl rfl (by omega) (by omega) (fun x29 hx29 => ?_); refine sp (pIs es_68 hx29) ?_) | refine sp (pIo es_68) ?_
            refine sp (pFs fd_147_2) ?_
            refine sr (rS1 ty_3) ?_
            refine sp pM ?_
            refine sp pB ?_
            refine sp pM ?_
            refine oSplitDec 34 rfl (fun c34 => ?_) (fun c34 => ?_)
            · skip
              refine gp pM ?_
              refine gp pM ?_
              first | refine gp (pIx es_68) ?_ | (refine obtSN 35 36 rfl rfl (by omega) (fun x37 hx37 => ?_); refine gp (pIs es_68 hx37) ?_) | (refine obtS 35 36 rfl rfl (by omega) (by omega) (fun x37 hx37 => ?_); refine gp (pIs es_68 hx37) ?_) | refine gp (pIo es_68) ?_
              refine gp (pFs fd_147_0) ?_
              refine gr (rS1 ty_3) ?_
              refine gp (pIa ar_65) ?_
              refine gr (by first | exact rAr ty_4 | exact rArL ty_4 | exact rArR ty_4 (by first | rfl | exact arrF_len one_len) | exact rB1 ty_4) ?_
              refine sp pK ?_
              refine sp pM ?_
              refine oSplit 43 rfl (fun c43 => ?_) (fun c43 => ?_)
              · skip
                refine gp pM ?_
                refine gp pM ?_
                first | refine gp (pIx es_68) ?_ | (refine obtSN 44 45 rfl rfl (by omega) (fun x46 hx46 => ?_); refine gp (pIs es_68 hx46) ?_) | (refine obtS 44 45 rfl rfl (by omega) (by omega) (fun x46 hx46 => ?_); refine gp (pIs es_68 hx46) ?_) | refine gp (pIo es_68) ?_
                refine gp (pFs fd_147_1) ?_
                refine gr (rS1 ty_3) ?_
                refine gp (pIa ar_65) ?_
                refine gr (by first | exact rAr ty_4 | exact rArL ty_4 | exact rArR ty_4 (by first | rfl | exact arrF_len one_len) | exact rB1 ty_4) ?_
                refine gp pNo ?_
                refine sp pK ?_
                refine oNil ?_
                refine aCondNot rfl (fun c52 => ?_) (fun c52 => ?_)
                · skip
                  refine aSeq ?_
                  refine aReg ?_
                  refine sp pM ?_
                  refine sp pM ?_
                  first | refine sp (pIx es_68) ?_ | (refine obtSN 53 54 rfl rfl (by omega) (fun x55 hx55 => ?_); refine sp (pIs es_68 hx55) ?_) | (refine obtS 53 54 rfl rfl (by omega) (by omega) (fun x55 hx55 => ?_); refine sp (pIs es_68 hx55) ?_) | refine sp (pIo es_68) ?_
                  refine sp (pFs fd_147_1) ?_
                  refine sr (rS1 ty_3) ?_
                  refine sp (pIa ar_65) ?_
                  refine sa ?_
                  first | refine oAr rfl rfl rfl (by repeat constructor) ty_4 ?_ | refine oArL rfl rfl rfl (by repeat constructor) ty_4 ?_ | refine oArR rfl rfl rfl (by repeat constructor) (by first | rfl | exact arrF_len one_len) ty_4 ?_ | refine oStB rfl rfl rfl rfl (by repeat constructor) ty_4 rfl (Nat.le_of_ble_eq_true rfl) rfl ?_
                  refine oNil ?_
                  refine aReg ?_
                  refine sp pMa ?_
                  refine oNil ?_
                  refine aReg ?_
                  refine sp pM ?_
                  refine sp pAd ?_
                  refine sp pMa ?_
                  refine oNil ?_
                  refine ⟨(i + 1, _, _), ?_, by (try dsimp only); omega, ⟨gInt rfl (by first | rfl | omega | simp), rfl, rfl, rfl, rfl, rfl, rfl, trivial⟩, _, (by repeat constructor)⟩
                  rw [drop_step hx, List.foldl_cons] at hv
                  refine ⟨by omega, ?_, ?_⟩
                  · rw [← hv]
                    congr 1
                    unfold wst
                    split
                    · first | rfl | (exfalso; simp_all; done) | (exfalso; simp_all; omega)
                    · first | rfl | (exfalso; simp_all; done) | (exfalso; simp_all; omega)
                  · simp_all
                · skip
                  refine aSkip ?_
                  refine aReg ?_
                  refine sp pM ?_
                  refine sp pAd ?_
                  refine sp pMa ?_
                  refine oNil ?_
                  refine ⟨(i + 1, _, _), ?_, by (try dsimp only); omega, ⟨gInt rfl (by first | rfl | omega | simp), rfl, rfl, rfl, rfl, rfl, rfl, trivial⟩, _, (by repeat constructor)⟩
                  rw [drop_step hx, List.foldl_cons] at hv
                  refine ⟨by omega, ?_, ?_⟩
                  · rw [← hv]
                    congr 1
                    unfold wst
                    split
                    · first | rfl | (exfalso; simp_all; done) | (exfalso; simp_all; omega)
                    · first | rfl | (exfalso; simp_all; done) | (exfalso; simp_all; omega)
                  · simp_all
              · skip
                refine gf ?_
                refine gf ?_
                refine gf ?_
                refine gf ?_
                refine gf ?_
                refine gf ?_
                refine gf ?_
                refine gf ?_
                refine sp pK ?_
                refine oNil ?_
                refine aCondF rfl ?_
                refine aSkip ?_
                refine aReg ?_
                refine sp pM ?_
                refine sp pAd ?_
                refine sp pMa ?_
                refine oNil ?_
                refine ⟨(i + 1, _, _), ?_, by (try dsimp only); omega, ⟨gInt rfl (by first | rfl | omega | simp), rfl, rfl, rfl, rfl, rfl, rfl, trivial⟩, _, (by repeat constructor)⟩
                rw [drop_step hx, List.foldl_cons] at hv
                refine ⟨by omega, ?_, ?_⟩
                · rw [← hv]
                  congr 1
                  unfold wst
                  split
                  · first | rfl | (exfalso; simp_all; done) | (exfalso; simp_all; omega)
                  · first | rfl | (exfalso; simp_all; done) | (exfalso; simp_all; omega)
                · simp_all
            · skip
              refine gf ?_
              refine gf ?_
              refine gf ?_
              refine gf ?_
              refine gf ?_
              refine gf ?_
              refine gf ?_
              refine sp pK ?_
              refine sp pM ?_
              refine gf ?_
              refine gf ?_
              refine gf ?_
              refine gf ?_
              refine gf ?_
              refine gf ?_
              refine gf ?_
              refine gf ?_
              refine sp pK ?_
              refine oNil ?_
              refine aCondF rfl ?_
              refine aSkip ?_
              refine aReg ?_
              refine sp pM ?_
              refine sp pAd ?_
              refine sp pMa ?_
              refine oNil ?_
              refine ⟨(i + 1, _, _), ?_, by (try dsimp only); omega, ⟨gInt rfl (by first | rfl | omega | simp), rfl, rfl, rfl, rfl, rfl, rfl, trivial⟩, _, (by repeat constructor)⟩
              rw [drop_step hx, List.foldl_cons] at hv
              refine ⟨by omega, ?_, ?_⟩
              · rw [← hv]
                congr 1
                unfold wst
                split
                · first | rfl | (exfalso; simp_all; done) | (exfalso; simp_all; omega)
                · first | rfl | (exfalso; simp_all; done) | (exfalso; simp_all; omega)
              · simp_all
          · skip
            refine aExit rfl ?_
            refine aReg ?_
            refine sp pM ?_
            refine sp pAd ?_
            refine sp pMa ?_
            refine oNil ?_
            refine ⟨(q + 1, _, _), ?_, by (try dsimp only); omega, ⟨gInt rfl (by first | rfl | omega | simp), rfl, rfl, rfl, rfl, rfl, trivial⟩, _, (by repeat constructor)⟩
            obtain rfl : i = l.length := by omega
            rw [List.drop_of_length_le (by omega)] at hv
            subst hv
            refine ⟨by omega, ?_, fun h => ?_⟩
            · rw [← hsat, show 65 - q = (65 - (q + 1)) + 1 by omega]; rfl
            · rw [hch h, ← hch h]; exact congrArg _ (hch h)
      · skip
        refine aExit rfl ?_
        refine aSeq ?_
        refine aReg ?_
        refine sr (by first | exact rBWa ty_65 | exact rBW ty_65 | exact rBA ty_65) ?_
        refine sa ?_
        refine oStW rfl rfl rfl rfl (by repeat constructor) ty_65 ?_
        refine oNil ?_
        refine aRet ?_
        have hf : f = reachW l w r := by
          rw [← hsat]
          by_cases h65 : q = 65
          · rw [show 65 - q = 0 by omega]; rfl
          · rw [satG_fix (hfx (by first | (exfalso; omega) | simp_all))]
        refine finRIs (l := [.agg (arrF 65 (fun x => [boA x]) f)]) (.cons (.cellA rfl (by repeat (first | exact List.mem_cons_self | apply List.mem_cons_of_mem)) (by rw [arrF_len one_len]; exact ty_65)) .nil) (by rw [hf]; rfl)
    · skip
      refine gf ?_
      refine sp pK ?_
      refine oNil ?_
      refine aCondF rfl ?_
      refine aExit rfl ?_
      refine aSeq ?_
      refine aReg ?_
      refine sr (by first | exact rBWa ty_65 | exact rBW ty_65 | exact rBA ty_65) ?_
      refine sa ?_
      refine oStW rfl rfl rfl rfl (by repeat constructor) ty_65 ?_
      refine oNil ?_
      refine aRet ?_
      have hf : f = reachW l w r := by
        rw [← hsat]
        by_cases h65 : q = 65
        · rw [show 65 - q = 0 by omega]; rfl
        · rw [satG_fix (hfx (by first | (exfalso; omega) | simp_all))]
      refine finRIs (l := [.agg (arrF 65 (fun x => [boA x]) f)]) (.cons (.cellA rfl (by repeat (first | exact List.mem_cons_self | apply List.mem_cons_of_mem)) (by rw [arrF_len one_len]; exact ty_65)) .nil) (by rw [hf]; rfl)

end A
end Go.Proofs.Ytkgemkadebgeoaa
