/- Whatever the input, waymarklaw47.MatrixOf returns true, and each argument reads as it did. -/
import Derived.KernelRfl
import Derived.Test.YtmcannmjielalaaProg
import Derived.Test.YtmcannmjielalaaS11MatrixOf
set_option linter.unusedVariables false
set_option linter.unusedSimpArgs false
namespace Go.Proofs.Ytmcannmjielalaa
namespace A
def stR (s : Int) (x : Int) : Int := if x = 18446744073709551615 then s else max s x
def mostR (xs : List Int) : Int := xs.foldl stR 0
def allR (xs : List Int) : Bool := xs.all fun x => x != 18446744073709551615
theorem mostR_step {xs : List Int} {i : Nat} {x : Int} (h : xs[i]? = some x) : mostR (xs.take (i + 1)) = stR (mostR (xs.take i)) x := by
  unfold mostR
  rw [take_step h, List.foldl_append]
  rfl
theorem allR_step {xs : List Int} {i : Nat} {x : Int} (h : xs[i]? = some x) : allR (xs.take (i + 1)) = (allR (xs.take i) && (x != 18446744073709551615)) := by
  unfold allR
  rw [take_step h, List.all_append]
  simp
def rowV (l : List Arc) (i : Nat) : List Int := (List.range (nodesV l).length).map fun k => dMx l i k
theorem rowV_len (l : List Arc) (i : Nat) : (rowV l i).length = (nodesV l).length := by simp [rowV]
def wideV (l : List Arc) (i : Nat) : Int := ((List.range (nodesV l).length).take i).foldl (fun s j => max s (mostR (rowV l j))) 0
theorem wideV_step {l : List Arc} {i : Nat} (h : i < (nodesV l).length) : wideV l (i + 1) = max (wideV l i) (mostR (rowV l i)) := by
  unfold wideV
  rw [take_step (List.getElem?_range h), List.foldl_append]
  rfl
def midS (l : List Arc) (s : Int × Int) (j : Nat) : Int × Int := if allR (rowV l j) && (decide (s.2 < 0) || decide (mostR (rowV l j) < s.1)) then (mostR (rowV l j), (j : Int)) else s
def midV (l : List Arc) (i : Nat) : Int × Int := ((List.range (nodesV l).length).take i).foldl (midS l) (0, -1)
theorem midV_step {l : List Arc} {i : Nat} (h : i < (nodesV l).length) : midV l (i + 1) = midS l (midV l i) i := by
  unfold midV
  rw [take_step (List.getElem?_range h), List.foldl_append]
  rfl
theorem midV_rng {l : List Arc} : ∀ i, i ≤ (nodesV l).length → -1 ≤ (midV l i).2 ∧ (midV l i).2 < i
  | 0, _ => ⟨Int.le_refl _, by show (-1 : Int) < 0; decide⟩
  | i + 1, h => by
    have ih := midV_rng (l := l) i (by omega)
    rw [midV_step (by omega)]
    unfold midS
    split
    · simp only; omega
    · omega
def midR (l : List Arc) : AV := .tup [.int (if (midV l (nodesV l).length).2 < 0 then 0 else nsV l (midV l (nodesV l).length).2.toNat), .v (.bool (decide (0 ≤ (midV l (nodesV l).length).2)))]
theorem dMx_rng {l : List Arc} (hl : ∀ a ∈ l, AOk a) (hll : l.length ≤ 1000000) (i k : Nat) : 0 ≤ dMx l i k ∧ dMx l i k ≤ 18446744073709551615 := by
  have := dF_range hl hll (nsV l i) (nsV l k)
  unfold dMx farI
  split
  · omega
  · omega
theorem dMx_tri {l : List Arc} (hl : ∀ a ∈ l, AOk a) (hll : l.length ≤ 1000000) {i j k : Nat} (hr : 1 ≤ nsV l i ∧ nsV l i ≤ 64) : dMx l i k ≤ addS (dMx l i j) (dMx l j k) := by
  have h1 := dF_range hl hll (nsV l i) (nsV l j)
  have h2 := dF_range hl hll (nsV l j) (nsV l k)
  have h3 := dMx_rng hl hll i k
  have h4 := dMx_rng hl hll i j
  have h5 := dMx_rng hl hll j k
  by_cases e1 : isF l (nsV l i) (nsV l j) = true
  · by_cases e2 : isF l (nsV l j) (nsV l k) = true
    · have h6 := wk_isF hl (.inl hr) ((isF_wk hl e1).trans (isF_wk hl e2))
      have g1 : dMx l i j = dF l (nsV l i) (nsV l j) := by unfold dMx; rw [if_pos e1]
      have g2 : dMx l j k = dF l (nsV l j) (nsV l k) := by unfold dMx; rw [if_pos e2]
      have g3 : dMx l i k = dF l (nsV l i) (nsV l k) := by unfold dMx; rw [if_pos h6.1]
      rw [g1, g2, g3, add_far (by omega)]
      exact h6.2
    · have g2 : dMx l j k = 18446744073709551615 := by unfold dMx; rw [if_neg e2]; rfl
      rw [g2]
      unfold addS farI
      split <;> omega
  · have g1 : dMx l i j = 18446744073709551615 := by unfold dMx; rw [if_neg e1]; rfl
    rw [g1]
    unfold addS farI
    split <;> omega
def row4 : List Arc := [⟨1, 2, 1⟩, ⟨2, 1, 1⟩, ⟨2, 3, 1⟩, ⟨3, 2, 1⟩]
theorem row4_mid : (midV row4 (nodesV row4).length).2 = 1 := by decide +kernel
theorem row4_ns : nsV row4 1 = 2 := by decide +kernel
theorem row4_wide : wideV row4 (nodesV row4).length = 2 := by decide +kernel
theorem row4_len : (nodesV row4).length = 3 := by decide +kernel
theorem row4_d : dMx row4 0 2 = 2 := by decide +kernel
theorem row4_midR : midR row4 = .tup [.int 2, .v (.bool true)] := by
  unfold midR
  rw [row4_mid]
  show AV.tup [.int (nsV row4 1), _] = _
  rw [row4_ns]
  rfl
/- matrix.reach -/
set_option maxRecDepth 100000 in
set_option maxHeartbeats 400000 in
theorem mx_reach {xs : List Int} (hl : xs.length ≤ 1000) : Triple Try.prog 224 [.sl 1 (xs.map u64C)] [] (Is (.tup [.v (.int .u64 (mostR xs)), .v (.bool (allR xs))]) []) := by
  refine triple_of Try.func224 rfl (by kernel_rfl) rfl (by simp) ?_
  refine aSeq ?_
  refine aReg ?_
  refine sp pMa ?_
  refine sp pMa ?_
  refine oNil ?_
  refine aSeq ?_
  refine aReg ?_
  refine sp pMa ?_
  refine sp pMa ?_
  refine oNil ?_
  refine aSeq ?_
  refine aSeq ?_
  refine aReg ?_
  refine sp pM ?_
  refine sp (by first | exact pLm sl_54 | exact pLs sl_54) ?_
  refine sp pM ?_
  refine oNil ?_
  refine aBlock ?_
  refine loopF (α := Nat × Int × Bool) (kept := [(8, _), (9, _)]) (fun (i, s, q) => i ≤ xs.length ∧ s = mostR (xs.take i) ∧ q = allR (xs.take i)) (fun (i, s, q) => [(10, .int i), (4, .v (.int .u64 s)), (5, .v (.bool q))]) (fun (i, s, q) => []) (fun (i, s, q) => xs.length - i) (0, 0, true) ?_ ⟨gInt rfl (by first | rfl | omega | simp), rfl, rfl, rfl, rfl, trivial⟩ (by repeat constructor) ?_
  · skip
    exact ⟨by omega, rfl, rfl⟩
  · rintro ⟨i, s, q⟩ ⟨hi, hs, hq⟩
    refine aSeq ?_
    refine aReg ?_
    refine sp pB ?_
    refine oNil ?_
    refine aSeq ?_
    refine aCondDec rfl (fun c11 => ?_) (fun c11 => ?_)
    · skip
      refine aSkip ?_
      refine aSeq ?_
      refine aBlock ?_
      refine aSeq ?_
      obtain ⟨x, hx⟩ : ∃ z, xs[i]? = some z := ⟨_, List.getElem?_eq_getElem (by omega)⟩
      refine aReg ?_
      first | refine sp (pIx es_54) ?_ | (refine obtSN 8 10 rfl rfl (by omega) (fun x12 hx12 => ?_); refine sp (pIs es_54 hx12) ?_) | (refine obtS 8 10 rfl rfl (by omega) (by omega) (fun x12 hx12 => ?_); refine sp (pIs es_54 hx12) ?_) | refine sp (pIo es_54) ?_
      refine sr (rS1 ty_37) ?_
      refine sp pMa ?_
      refine oNil ?_
      refine aSeq ?_
      refine aSeq ?_
      refine aReg ?_
      refine sp pM ?_
      refine sq ?_
      refine cv rfl rfl rfl (lents_refl _) cost_FarX ?_
      refine sp pB ?_
      refine oNil ?_
      refine aCondEq rfl (fun c16 => ?_) (fun c16 => ?_)
      · skip
        refine aSeq ?_
        refine aReg ?_
        refine sp pMa ?_
        refine oNil ?_
        refine aExit rfl ?_
        refine aReg ?_
        refine sp pAd ?_
        refine sp pM ?_
        refine oNil ?_
        refine ⟨(i + 1, _, _), ?_, by (try dsimp only); omega, ⟨gInt rfl (by first | rfl | omega | simp), rfl, rfl, rfl, rfl, trivial⟩, _, (by repeat constructor)⟩
        refine ⟨by omega, ?_, ?_⟩
        · rw [mostR_step hx, ← hs]
          unfold stR
          first
            | (rw [if_pos (by assumption)]; done)
            | (rw [if_neg (by assumption)]; done)
        · rw [allR_step hx, ← hq]
          first
            | (rw [show (x != 18446744073709551615) = false by rw [bne_eq_false_iff_eq]; assumption, Bool.and_false]; done)
            | (rw [show (x != 18446744073709551615) = true by rw [bne_iff_ne]; assumption, Bool.and_true]; done)
      · skip
        refine aSkip ?_
        refine aReg ?_
        refine sp pM ?_
        refine sp pM ?_
        refine sp pMax ?_
        refine sp pMa ?_
        refine oNil ?_
        refine aReg ?_
        refine sp pAd ?_
        refine sp pM ?_
        refine oNil ?_
        refine ⟨(i + 1, _, _), ?_, by (try dsimp only); omega, ⟨gInt rfl (by first | rfl | omega | simp), rfl, rfl, rfl, rfl, trivial⟩, _, (by repeat constructor)⟩
        refine ⟨by omega, ?_, ?_⟩
        · rw [mostR_step hx, ← hs]
          unfold stR
          first
            | (rw [if_pos (by assumption)]; done)
            | (rw [if_neg (by assumption)]; done)
        · rw [allR_step hx, ← hq]
          first
            | (rw [show (x != 18446744073709551615) = false by rw [bne_eq_false_iff_eq]; assumption, Bool.and_false]; done)
            | (rw [show (x != 18446744073709551615) = true by rw [bne_iff_ne]; assumption, Bool.and_true]; done)
    · skip
      refine aExit rfl ?_
      refine aSeq ?_
      refine aReg ?_
      refine sp pM ?_
      refine sp pM ?_
      refine sp pMa ?_
      refine sp pMa ?_
      refine oNil ?_
      refine aRet ?_
      refine finIs rfl ?_
      rw [take_all (by omega)] at hs hq
      rw [hs, hq]
      rfl
/- matrix.Widest -/
set_option maxRecDepth 100000 in
set_option maxHeartbeats 400000 in
theorem mx_Widest {l : List Arc} (hll : l.length ≤ 1000000) : Triple Try.prog 132 [.sl 3 (l.map arcC)] [] (Is (.v (.int .u64 (wideV l (nodesV l).length))) []) := by
  have hnl := nodesV_len l
  refine triple_of Try.func132 rfl (by kernel_rfl) rfl (by simp) ?_
  refine aSeq ?_
  refine aReg ?_
  refine sp pMa ?_
  refine oNil ?_
  refine aSeq ?_
  refine aReg ?_
  refine sp pM ?_
  refine sq ?_
  refine ci rfl rfl rfl (mx_Of (l := l) hll) ?_
  refine sp pM ?_
  refine sp pX ?_
  refine sp pX ?_
  refine sp pMa ?_
  refine sp pMa ?_
  refine oNil ?_
  refine aSeq ?_
  rw [show mxR l = (List.range (nodesV l).length).map (rowS (dMx l) (nodesV l).length) from rfl]
  refine aReg ?_
  refine sp pMa ?_
  refine oNil ?_
  refine aSeq ?_
  refine aSeq ?_
  refine aReg ?_
  refine sp pM ?_
  refine sp (by first | exact pLm sl_51 | exact pLs sl_51 | exact pLv sl_51) ?_
  refine sp pM ?_
  refine oNil ?_
  refine aBlock ?_
  refine loopF (α := Nat × Int) (kept := [(15, _), (16, _)]) (fun (i, s) => i ≤ (nodesV l).length ∧ s = wideV l i) (fun (i, s) => [(17, .int i), (5, .v (.int .u64 s))]) (fun (i, s) => []) (fun (i, s) => (nodesV l).length - i) (0, 0) ?_ ⟨gInt rfl (by first | rfl | omega | simp), rfl, rfl, rfl, trivial⟩ (by repeat constructor) ?_
  · skip
    exact ⟨by omega, rfl⟩
  · rintro ⟨i, s⟩ ⟨hi, hs⟩
    refine aSeq ?_
    refine aReg ?_
    refine sp pB ?_
    refine oNil ?_
    refine aSeq ?_
    refine aCondDec rfl (fun c18 => ?_) (fun c18 => ?_)
    · skip
      refine aSkip ?_
      refine aSeq ?_
      refine aBlock ?_
      refine aSeq ?_
      have hin : i < (nodesV l).length := by first | omega | (simp at *; omega)
      have hri : (List.range (nodesV l).length)[((i : Nat) : Int).toNat]? = some i := by rw [Int.toNat_natCast, List.getElem?_range hin]
      refine aReg ?_
      first | refine sp (pIx es_51) ?_ | (refine obtSN 15 17 rfl rfl (by omega) (fun x19 hx19 => ?_); refine sp (pIs es_51 hx19) ?_) | (refine obtS 15 17 rfl rfl (by omega) (by omega) (fun x19 hx19 => ?_); refine sp (pIs es_51 hx19) ?_) | refine sp (pIo es_51) ?_
      refine sr (by first | exact rS1 ty_54 | exact rB1 ty_54 | exact rAr ty_54 | exact rArL ty_54 | exact rArR2 ty_54) ?_
      refine sp pMa ?_
      refine oNil ?_
      refine aSeq ?_
      refine aReg ?_
      refine sp pM ?_
      refine sq ?_
      refine ci rfl rfl rfl (mx_reach (xs := rowV l i) (by rw [rowV_len]; omega)) ?_
      refine sp pM ?_
      refine sp pX ?_
      refine sp pX ?_
      refine sp pMa ?_
      refine sp pMa ?_
      refine oNil ?_
      refine aReg ?_
      refine sp pM ?_
      refine sp pM ?_
      refine sp pMax ?_
      refine sp pMa ?_
      refine oNil ?_
      refine aReg ?_
      refine sp pAd ?_
      refine sp pM ?_
      refine oNil ?_
      refine ⟨(i + 1, _), ?_, by (try dsimp only); omega, ⟨gInt rfl (by first | rfl | omega | simp), rfl, rfl, rfl, trivial⟩, _, (by repeat constructor)⟩
      exact ⟨by omega, by rw [wideV_step hin, ← hs]⟩
    · skip
      refine aExit rfl ?_
      refine aSeq ?_
      refine aReg ?_
      refine sp pM ?_
      refine sp pMa ?_
      refine oNil ?_
      refine aRet ?_
      refine finIs rfl ?_
      obtain rfl : i = (nodesV l).length := by first | omega | (simp at *; omega)
      rw [hs]
      rfl
/- matrix.Middle -/
set_option maxRecDepth 100000 in
set_option maxHeartbeats 2000000 in
theorem mx_Middle {l : List Arc} (hll : l.length ≤ 1000000) : Triple Try.prog 130 [.sl 3 (l.map arcC)] [] (Is (midR l) []) := by
  have hnl := nodesV_len l
  refine triple_of Try.func130 rfl (by kernel_rfl) rfl (by simp) ?_
  refine aSeq ?_
  refine aReg ?_
  refine sp pMa ?_
  refine sp pMa ?_
  refine oNil ?_
  refine aSeq ?_
  refine aReg ?_
  refine sp pM ?_
  refine sq ?_
  refine ci rfl rfl rfl (mx_Of (l := l) hll) ?_
  refine sp pM ?_
  refine sp pX ?_
  refine sp pX ?_
  refine sp pMa ?_
  refine sp pMa ?_
  refine oNil ?_
  refine aSeq ?_
  refine aReg ?_
  refine sp pMa ?_
  refine sp pMa ?_
  refine oNil ?_
  refine aSeq ?_
  refine aSeq ?_
  rw [show mxR l = (List.range (nodesV l).length).map (rowS (dMx l) (nodesV l).length) from rfl]
  refine aReg ?_
  refine sp pM ?_
  refine sp (by first | exact pLm sl_51 | exact pLs sl_51 | exact pLv sl_51) ?_
  refine sp pM ?_
  refine oNil ?_
  refine aBlock ?_
  refine loopF (α := Nat × Int × Int) (kept := [(4, _), (17, _), (18, _)]) (fun (i, best, at_) => i ≤ (nodesV l).length ∧ (best, at_) = midV l i) (fun (i, best, at_) => [(19, .int i), (6, .v (.int .u64 best)), (7, .int at_)]) (fun (i, best, at_) => []) (fun (i, best, at_) => (nodesV l).length - i) (0, 0, -1) ?_ ⟨gInt rfl (by first | rfl | omega | simp), rfl, gInt rfl (by first | rfl | omega | simp), rfl, rfl, rfl, trivial⟩ (by repeat constructor) ?_
  · skip
    exact ⟨by omega, rfl⟩
  · rintro ⟨i, best, at_⟩ ⟨hi, hs⟩
    refine aSeq ?_
    refine aReg ?_
    refine sp pB ?_
    refine oNil ?_
    refine aSeq ?_
    refine aCondDec rfl (fun c20 => ?_) (fun c20 => ?_)
    · skip
      refine aSkip ?_
      refine aSeq ?_
      refine aBlock ?_
      refine aSeq ?_
      have hin : i < (nodesV l).length := by first | omega | (simp at *; omega)
      have hri : (List.range (nodesV l).length)[((i : Nat) : Int).toNat]? = some i := by rw [Int.toNat_natCast, List.getElem?_range hin]
      refine aReg ?_
      refine sp pM ?_
      first | refine sp (pIx es_51) ?_ | (refine obtSN 17 19 rfl rfl (by omega) (fun x22 hx22 => ?_); refine sp (pIs es_51 hx22) ?_) | (refine obtS 17 19 rfl rfl (by omega) (by omega) (fun x22 hx22 => ?_); refine sp (pIs es_51 hx22) ?_) | refine sp (pIo es_51) ?_
      refine sr (by first | exact rS1 ty_54 | exact rB1 ty_54 | exact rAr ty_54 | exact rArL ty_54 | exact rArR2 ty_54) ?_
      refine sp pMa ?_
      refine sp pMa ?_
      refine oNil ?_
      refine aSeq ?_
      refine aReg ?_
      refine sp pM ?_
      refine sq ?_
      refine ci rfl rfl rfl (mx_reach (xs := rowV l i) (by rw [rowV_len]; omega)) ?_
      refine sp pM ?_
      refine sp pX ?_
      refine sp pX ?_
      refine sp pMa ?_
      refine sp pMa ?_
      refine oNil ?_
      refine aSeq ?_
      refine aReg ?_
      refine sp pM ?_
      refine sp pM ?_
      refine oSplit 30 rfl (fun c30 => ?_) (fun c30 => ?_)
      · skip
        refine gp pM ?_
        refine gp pB ?_
        refine gp pM ?_
        refine oSplitDec 33 rfl (fun c33 => ?_) (fun c33 => ?_)
        · skip
          refine gf ?_
          refine gf ?_
          refine gf ?_
          refine gp pK ?_
          refine sp pK ?_
          refine oNil ?_
          refine aCondT rfl ?_
          refine aReg ?_
          refine sp pM ?_
          refine sp pM ?_
          refine sp pMa ?_
          refine sp pMa ?_
          refine oNil ?_
          refine aReg ?_
          refine sp pAd ?_
          refine sp pM ?_
          refine oNil ?_
          refine ⟨(i + 1, _, _), ?_, by (try dsimp only); omega, ⟨gInt rfl (by first | rfl | omega | simp), rfl, gInt rfl (by first | rfl | omega | simp), rfl, rfl, rfl, trivial⟩, _, (by repeat constructor)⟩
          refine ⟨by omega, ?_⟩
          rw [midV_step hin, ← hs]
          unfold midS
          first
            | (rw [if_pos (by simp_all)]; done)
            | (rw [if_neg (by simp_all)]; done)
            | (rw [if_neg (by simp_all; omega)]; done)
            | (rw [if_pos (by simp_all; omega)]; done)
        · skip
          refine gp pM ?_
          refine gp pM ?_
          refine gp pB ?_
          refine gp pK ?_
          refine sp pK ?_
          refine oNil ?_
          refine aCondDec rfl (fun c38 => ?_) (fun c38 => ?_)
          · skip
            refine aReg ?_
            refine sp pM ?_
            refine sp pM ?_
            refine sp pMa ?_
            refine sp pMa ?_
            refine oNil ?_
            refine aReg ?_
            refine sp pAd ?_
            refine sp pM ?_
            refine oNil ?_
            refine ⟨(i + 1, _, _), ?_, by (try dsimp only); omega, ⟨gInt rfl (by first | rfl | omega | simp), rfl, gInt rfl (by first | rfl | omega | simp), rfl, rfl, rfl, trivial⟩, _, (by repeat constructor)⟩
            refine ⟨by omega, ?_⟩
            rw [midV_step hin, ← hs]
            unfold midS
            first
              | (rw [if_pos (by simp_all)]; done)
              | (rw [if_neg (by simp_all)]; done)
              | (rw [if_neg (by simp_all; omega)]; done)
              | (rw [if_pos (by simp_all; omega)]; done)
          · skip
            refine aSkip ?_
            refine aReg ?_
            refine sp pAd ?_
            refine sp pM ?_
            refine oNil ?_
            refine ⟨(i + 1, _, _), ?_, by (try dsimp only); omega, ⟨gInt rfl (by first | rfl | omega | simp), rfl, gInt rfl (by first | rfl | omega | simp), rfl, rfl, rfl, trivial⟩, _, (by repeat constructor)⟩
            refine ⟨by omega, ?_⟩
            rw [midV_step hin, ← hs]
            unfold midS
            first
              | (rw [if_pos (by simp_all)]; done)
              | (rw [if_neg (by simp_all)]; done)
              | (rw [if_neg (by simp_all; omega)]; done)
              | (rw [if_pos (by simp_all; omega)]; done)
      · skip
        refine gf ?_
        refine gf ?_
        refine gf ?_
        refine gf ?_
        refine gf ?_
        refine gf ?_
        refine gf ?_
        refine sp pK ?_
        refine oNil ?_
        refine aCondF rfl ?_
        refine aSkip ?_
        refine aReg ?_
        refine sp pAd ?_
        refine sp pM ?_
        refine oNil ?_
        refine ⟨(i + 1, _, _), ?_, by (try dsimp only); omega, ⟨gInt rfl (by first | rfl | omega | simp), rfl, gInt rfl (by first | rfl | omega | simp), rfl, rfl, rfl, trivial⟩, _, (by repeat constructor)⟩
        refine ⟨by omega, ?_⟩
        rw [midV_step hin, ← hs]
        unfold midS
        first
          | (rw [if_pos (by simp_all)]; done)
          | (rw [if_neg (by simp_all)]; done)
          | (rw [if_neg (by simp_all; omega)]; done)
          | (rw [if_pos (by simp_all; omega)]; done)
    · skip
      refine aExit rfl ?_
      refine aSeq ?_
      refine aSeq ?_
      obtain rfl : i = (nodesV l).length := by first | omega | (simp at *; omega)
      have hmr := midV_rng (l := l) _ (Nat.le_refl (nodesV l).length)
      refine aReg ?_
      refine sp pM ?_
      refine sp pB ?_
      refine oNil ?_
      refine aCondDec rfl (fun c43 => ?_) (fun c43 => ?_)
      · skip
        refine aSeq ?_
        refine aReg ?_
        refine sp pMa ?_
        refine sp pMa ?_
        refine oNil ?_
        refine aRet ?_
        refine finIs rfl ?_
        have h2 := congrArg Prod.snd hs
        simp only at h2
        unfold midR
        rw [← h2, if_pos (by assumption), decide_eq_false (by omega)]
        rfl
      · skip
        refine aSkip ?_
        refine aSeq ?_
        have h2 := congrArg Prod.snd hs
        simp only at h2
        have hlt : at_.toNat < (nodesV l).length := by omega
        have hx2 : (nodesV l)[at_.toNat]? = some (nsV l at_.toNat) := nsV_get hlt
        refine aReg ?_
        refine sp pM ?_
        refine sp pM ?_
        first | refine sp (pIx es_25) ?_ | (refine obtSN 44 45 rfl rfl (by omega) (fun x46 hx46 => ?_); refine sp (pIs es_25 hx46) ?_) | (refine obtS 44 45 rfl rfl (by omega) (by omega) (fun x46 hx46 => ?_); refine sp (pIs es_25 hx46) ?_) | refine sp (pIo es_25) ?_
        refine sr (by first | exact rS1 ty_3 | exact rB1 ty_3 | exact rAr ty_3 | exact rArL ty_3 | exact rArR2 ty_3) ?_
        refine sp pMa ?_
        refine sp pMa ?_
        refine oNil ?_
        refine aRet ?_
        refine finIs rfl ?_
        unfold midR
        rw [← h2, if_neg (by assumption), decide_eq_true (by omega)]
        rfl
/- waymarklaw47.row -/
set_option maxRecDepth 100000 in
set_option maxHeartbeats 400000 in
theorem law47_row  : Triple Try.prog 131 [] [] (Is (.sl 3 (row4.map arcC)) []) := by
  refine triple_of Try.func131 rfl (by kernel_rfl) rfl (by simp) ?_
  refine aSeq ?_
  refine aReg ?_
  refine sp pMa ?_
  refine oNil ?_
  refine aSeq ?_
  refine aReg ?_
  refine sp (pBuild rfl st_36 ze_36 rfl rfl rfl rfl) ?_
  refine sp (pBuild rfl st_36 ze_36 rfl rfl rfl rfl) ?_
  refine sp (pBuild rfl st_36 ze_36 rfl rfl rfl rfl) ?_
  refine sp (pBuild rfl st_36 ze_36 rfl rfl rfl rfl) ?_
  refine sq ?_
  refine qLit (l := [_, _, _, _]) rfl rfl (by decide) us_22 ty_36 ze_36 rfl (by decide) (by decide) rfl rfl rfl (fun b5 => ?_)
  refine sp pMa ?_
  refine oNil ?_
  refine aWeak (weak_settle (k := 0) (es := row4.map arcC) rfl (by repeat constructor) rfl) ?_
  refine aRet ?_
  refine finIs rfl rfl
/- waymarklaw47.awake -/
set_option maxRecDepth 100000 in
set_option maxHeartbeats 400000 in
theorem law47_awake  : Triple Try.prog 48 [] [] (Is (.v (.bool true)) []) := by
  refine triple_of Try.func48 rfl (by kernel_rfl) rfl (by simp) ?_
  refine aSeq ?_
  refine aReg ?_
  refine sp pMa ?_
  refine oNil ?_
  refine aSeq ?_
  refine aReg ?_
  refine sq ?_
  refine ci rfl rfl rfl law47_row ?_
  refine sq ?_
  refine ci rfl rfl rfl (mx_Middle (l := row4) (by decide)) ?_
  rw [row4_midR]
  refine sp pM ?_
  refine sp pX ?_
  refine sp pX ?_
  refine sp pMa ?_
  refine sp pMa ?_
  refine oNil ?_
  refine aSeq ?_
  refine aReg ?_
  refine sq ?_
  refine ci rfl rfl rfl law47_row ?_
  refine sq ?_
  refine ci rfl rfl rfl (mx_Of (l := row4) (by decide)) ?_
  rw [show mxR row4 = (List.range (nodesV row4).length).map (rowS (dMx row4) (nodesV row4).length) from rfl]
  have hl3 := row4_len
  refine sp pM ?_
  refine sp pX ?_
  refine sp pX ?_
  refine sp pMa ?_
  refine sp pMa ?_
  refine oNil ?_
  refine aSeq ?_
  refine aReg ?_
  refine sp pM ?_
  refine sp pM ?_
  refine gp pM ?_
  refine gp pB ?_
  refine sp pK ?_
  refine sp pM ?_
  refine ga ?_
  refine (ci rfl rfl rfl law47_row ?_).op
  refine ga ?_
  refine (cv rfl rfl rfl (lents_refl _) (mx_Widest (l := row4) (by decide)) ?_).op
  rw [row4_wide]
  refine gp pB ?_
  refine sp pK ?_
  refine sp pM ?_
  refine gp pM ?_
  refine gp (by first | exact pLm sl_25 | exact pLs sl_25 | exact pLv sl_25) ?_
  refine gp (pBl (by exact pB) (show _ = true from by rw [row4_len]; rfl)) ?_
  refine sp pK ?_
  refine sp pM ?_
  refine gp pM ?_
  refine gp (by first | exact pLm sl_51 | exact pLs sl_51 | exact pLv sl_51) ?_
  refine gp (pBl (by exact pB) (show _ = true from by first | (rw [List.length_range, row4_len]; rfl) | (simp [row4_len]; done))) ?_
  refine sp pK ?_
  refine sp pM ?_
  have hri : (List.range (nodesV row4).length)[(0 : Int).toNat]? = some 0 := by rw [row4_len]; rfl
  have hrv : ((List.range (nodesV row4).length).map fun k => dMx row4 0 k)[(2 : Int).toNat]? = some (dMx row4 0 2) := by rw [row4_len]; rfl
  refine gp pM ?_
  first | refine gp (pIx es_51) ?_ | refine gp (pIo es_51) ?_
  refine gr (by first | exact rS1 ty_54 | exact rB1 ty_54 | exact rAr ty_54 | exact rArL ty_54 | exact rArR2 ty_54) ?_
  refine gp (by first | exact pLm sl_54 | exact pLs sl_54 | exact pLv sl_54) ?_
  refine gp (pBl (by exact pB) (show _ = true from by rw [List.length_map, List.length_range, row4_len]; rfl)) ?_
  refine sp pK ?_
  refine sp pM ?_
  refine gp pM ?_
  first | refine gp (pIx es_51) ?_ | refine gp (pIo es_51) ?_
  refine gr (by first | exact rS1 ty_54 | exact rB1 ty_54 | exact rAr ty_54 | exact rArL ty_54 | exact rArR2 ty_54) ?_
  first | refine gp (pIx es_54) ?_ | refine gp (pIo es_54) ?_
  refine gr (by first | exact rS1 ty_37 | exact rB1 ty_37 | exact rAr ty_37 | exact rArL ty_37 | exact rArR2 ty_37) ?_
  refine gp (pBl (by exact pB) (show _ = true from by rw [row4_d]; rfl)) ?_
  refine sp pK ?_
  refine sp pMa ?_
  refine oNil ?_
  refine aRet ?_
  refine finIs rfl ?_
  rfl
/- waymarklaw47.MatrixOf -/
def law47_MatrixOf_r17_T : Bool × List (List Nat × List Nat) := (true, [([], []), ([], []), ([0, 1], [0, 1]), ([2], [2]), ([], []), ([3, 4], [3, 4]), ([5], [5]), ([], []), ([], []), ([], []), ([8, 9], [8, 9]), ([10], [10]), ([], []), ([], []), ([12, 13], [12, 13]), ([14], [14]), ([7, 11, 15], [7, 11, 15]), ([6, 16], [6, 16])])
def law47_MatrixOf_r17_B : List Nat := [0, 0, 3, 7, 0, 31, 63, 0, 0, 0, 768, 1792, 0, 0, 12288, 28672, 65408, 131071]
theorem law47_MatrixOf_r17_t : Go.Proofs.YtmcannmjielalaaW.PrintLast.rtab .any (Go.Proofs.YtmcannmjielalaaW.PrintLast.opsOf Try.f7 17) = law47_MatrixOf_r17_T := by kernel_rfl
theorem law47_MatrixOf_r17_b : Go.Proofs.YtmcannmjielalaaW.PrintLast.waitsOk law47_MatrixOf_r17_T.2 law47_MatrixOf_r17_B = true := by kernel_rfl
def law47_MatrixOf_r22_T : Bool × List (List Nat × List Nat) := (true, [([], []), ([], []), ([0, 1], [0, 1]), ([2], [2]), ([3], [3]), ([], []), ([5], [5]), ([4, 6], [4, 6]), ([7], [7]), ([8], [8]), ([8], [8]), ([9, 10, 8], [8, 9, 10]), ([11, 8], [8, 11]), ([8], [8]), ([12, 13, 8], [8, 12, 13]), ([14, 8], [8, 14]), ([8], [8]), ([8], [8]), ([16, 17, 8], [8, 16, 17]), ([18, 8], [8, 18]), ([8], [8]), ([19, 20, 8], [8, 19, 20]), ([21, 8], [8, 21]), ([8], [8]), ([8], [8]), ([23, 24, 8], [8, 23, 24]), ([25, 8], [8, 25]), ([8], [8]), ([26, 27, 8], [8, 26, 27]), ([28, 8], [8, 28]), ([22, 29, 8, 8], [8, 22, 29]), ([15, 30, 8], [8, 15, 30]), ([8, 31], [8, 31])])
def law47_MatrixOf_r22_B : List Nat := [0, 0, 3, 7, 15, 0, 32, 127, 255, 511, 511, 2047, 4095, 511, 16383, 32767, 511, 511, 197119, 459263, 511, 2032127, 4129279, 511, 511, 25166335, 58720767, 511, 260047359, 528482815, 1073676799, 2147483647, 4294967295]
theorem law47_MatrixOf_r22_t : Go.Proofs.YtmcannmjielalaaW.PrintLast.rtab .any (Go.Proofs.YtmcannmjielalaaW.PrintLast.opsOf Try.f7 22) = law47_MatrixOf_r22_T := by kernel_rfl
theorem law47_MatrixOf_r22_b : Go.Proofs.YtmcannmjielalaaW.PrintLast.waitsOk law47_MatrixOf_r22_T.2 law47_MatrixOf_r22_B = true := by kernel_rfl
set_option maxRecDepth 100000 in
set_option maxHeartbeats 4000000 in
theorem law47_MatrixOf {l : List Arc} (hll : l.length ≤ 9223372036854775807) : Triple Try.prog 7 [.sl 3 (l.map arcC)] [] (Is (.v (.bool true)) []) := by
  have hnl := nodesV_len l
  refine triple_of Try.func7 rfl (by kernel_rfl) rfl (by simp) ?_
  refine aSeq ?_
  refine aReg ?_
  refine sp pMa ?_
  refine oNil ?_
  refine aSeq ?_
  refine aSeq ?_
  refine aReg ?_
  refine sp pM ?_
  refine sp (by first | exact pLm sl_22 | exact pLs sl_22) ?_
  refine sp pB ?_
  refine oNil ?_
  refine aCondDec rfl (fun c11 => ?_) (fun c11 => ?_)
  · skip
    refine aSeq ?_
    refine aReg ?_
    refine sq ?_
    refine cv rfl rfl rfl (lents_refl _) law47_awake ?_
    refine sp pMa ?_
    refine oNil ?_
    refine aRet ?_
    refine finIs rfl ?_
    rfl
  · skip
    refine aSkip ?_
    refine aSeq ?_
    refine aReg ?_
    refine sp pM ?_
    refine sq ?_
    refine ci rfl rfl rfl (mx_Of (l := l) (by omega)) ?_
    refine sp pM ?_
    refine sp pX ?_
    refine sp pX ?_
    refine sp pMa ?_
    refine sp pMa ?_
    refine oNil ?_
    refine aSeq ?_
    refine aSeq ?_
    refine aReg ?_
    refine sp pM ?_
    refine sq ?_
    refine cv rfl rfl rfl (lents_refl _) (ref24_May (by omega)) ?_
    refine sp pNo ?_
    refine oNil ?_
    refine aCondNot rfl (fun c20 => ?_) (fun c20 => ?_)
    · skip
      refine aSeq ?_
      have hz : nodesV l = [] := by
        unfold nodesV
        rw [if_neg (by simp_all)]
      have hz2 : mxR l = [] := by unfold mxR; rw [hz]; rfl
      rw [hz, hz2]
      refine aReg ?_
      refine sp pM ?_
      refine sp (by first | exact pLm sl_25 | exact pLs sl_25 | exact pLv sl_25) ?_
      refine sp pB ?_
      refine sp pM ?_
      refine gp pM ?_
      refine gp (by first | exact pLm sl_51 | exact pLs sl_51 | exact pLv sl_51) ?_
      refine gp pB ?_
      refine sp pK ?_
      refine sp pM ?_
      refine ga ?_
      refine (cv rfl rfl rfl (lents_refl _) law47_awake ?_).op
      refine sp pK ?_
      refine sp pMa ?_
      refine oNil ?_
      refine aRet ?_
      refine finIs rfl ?_
      rfl
    · skip
      refine aSkip ?_
      refine aSeq ?_
      have hok : arcsB none l = true := by simp_all
      have hl := arcs_ok hok
      have hnv : nodesV l = nodesM l := by unfold nodesV; rw [if_pos hok]
      rw [show mxR l = (List.range (nodesV l).length).map (rowS (dMx l) (nodesV l).length) from rfl]
      refine aReg ?_
      refine sp pM ?_
      refine sa ?_
      first | refine coM rfl rfl rfl (ref24_Nodes (l := l) (by omega) hl) (fun g33 k33 => ?_) | refine co rfl rfl rfl (ref24_Nodes (l := l) (by omega) hl) (fun g33 k33 => ?_)
      rw [← hnv]
      refine sp pMa ?_
      refine oNil ?_
      refine aSeq ?_
      refine aSeq ?_
      refine aWeak (weak_settle (k := 5) rfl (by repeat constructor) (by first | rfl | (simp; done) | (simp; omega) | (simp_all; done))) ?_
      refine aReg ?_
      refine sp pM ?_
      refine sp pM ?_
      refine sq ?_
      refine cv rfl rfl rfl (lents_refl _) (ref24_Ints (by omega) (by omega)) ?_
      rw [show decide (nodesV l = nodesV l) = true from decide_eq_true rfl]
      refine sp pNo ?_
      refine sp pM ?_
      refine oSplitNot 38 rfl (fun c38 => ?_) (fun c38 => ?_)
      · skip
        refine gf ?_
        refine gf ?_
        refine gf ?_
        refine gf ?_
        refine gf ?_
        refine sp pK ?_
        refine oNil ?_
        refine aCondT rfl ?_
        refine aSeq ?_
        refine aReg ?_
        refine sp pMa ?_
        refine oNil ?_
        refine aRet ?_
        exfalso
        first
          | (simp_all; done)
          | (simp_all; omega)
          | (rw [List.length_range] at *; omega)
      · skip
        refine gp pM ?_
        refine gp (by first | exact pLm sl_51 | exact pLs sl_51 | exact pLv sl_51) ?_
        refine gp pM ?_
        refine gp (by first | exact pLm sl_25 | exact pLs sl_25) ?_
        refine gp pB ?_
        refine sp pK ?_
        refine oNil ?_
        refine aCondNe rfl (fun c44 => ?_) (fun c44 => ?_)
        · skip
          refine aSeq ?_
          refine aReg ?_
          refine sp pMa ?_
          refine oNil ?_
          refine aRet ?_
          exfalso
          first
            | (simp_all; done)
            | (simp_all; omega)
            | (rw [List.length_range] at *; omega)
        · skip
          refine aSkip ?_
          refine aSeq ?_
          refine aSeq ?_
          refine aReg ?_
          refine sp pMa ?_
          refine oNil ?_
          refine aBlock ?_
          refine loopF (α := Nat) (kept := [(0, _), (4, _), (5, _)]) (fun i => i ≤ (nodesV l).length) (fun i => [(6, .int i)]) (fun i => []) (fun i => (nodesV l).length - i) 0 ?_ ⟨gInt rfl (by first | rfl | omega | simp), rfl, rfl, rfl, trivial⟩ (by repeat constructor) ?_
          · skip
            omega
          · rintro i hi
            refine aSeq ?_
            refine aSeq ?_
            refine aReg ?_
            refine sp pM ?_
            refine sp pM ?_
            refine sp (by first | exact pLm sl_25 | exact pLs sl_25) ?_
            refine sp pB ?_
            refine oNil ?_
            refine aCondDec rfl (fun c48 => ?_) (fun c48 => ?_)
            · skip
              refine aSkip ?_
              refine aSeq ?_
              refine aBlock ?_
              refine aSeq ?_
              refine aSeq ?_
              have hin : i < (nodesV l).length := by omega
              have V := nsV_of (l := l) (by omega)
              have hvi := V.rng i hin
              have hru := rowU_len (dMx l) (nodesV l).length i
              have hri : (List.range (nodesV l).length)[((i : Nat) : Int).toNat]? = some i := by rw [Int.toNat_natCast, List.getElem?_range hin]
              refine aReg ?_
              refine sp pM ?_
              refine sp pM ?_
              first | refine sp (pIx es_51) ?_ | (refine obtSN 51 52 rfl rfl (by omega) (fun x53 hx53 => ?_); refine sp (pIs es_51 hx53) ?_) | (refine obtS 51 52 rfl rfl (by omega) (by omega) (fun x53 hx53 => ?_); refine sp (pIs es_51 hx53) ?_) | refine sp (pIo es_51) ?_
              refine sr (by first | exact rS1 ty_54 | exact rB1 ty_54 | exact rAr ty_54 | exact rArL ty_54 | exact rArR2 ty_54) ?_
              refine sp (by first | exact pLm sl_54 | exact pLs sl_54 | exact pLv sl_54) ?_
              refine sp pM ?_
              refine sp (by first | exact pLm sl_25 | exact pLs sl_25) ?_
              refine sp pB ?_
              refine oNil ?_
              refine aCondNe rfl (fun c58 => ?_) (fun c58 => ?_)
              · skip
                refine aSeq ?_
                refine aReg ?_
                refine sp pMa ?_
                refine oNil ?_
                refine aRet ?_
                exfalso
                first
                  | omega
                  | (simp only [List.length_map, List.length_range] at *; omega)
              · skip
                refine aSkip ?_
                refine aSeq ?_
                refine aReg ?_
                refine sp pMa ?_
                refine oNil ?_
                refine aBlock ?_
                refine loopF (α := Nat) (kept := [(0, _), (4, _), (5, _), (6, _)]) (fun k => k ≤ (nodesV l).length) (fun k => [(7, .int k)]) (fun k => []) (fun k => (nodesV l).length - k) 0 ?_ ⟨gInt rfl (by first | rfl | omega | simp), rfl, rfl, rfl, rfl, trivial⟩ (by repeat constructor) ?_
                · skip
                  omega
                · rintro k hk
                  refine aSeq ?_
                  refine aSeq ?_
                  refine aReg ?_
                  refine sp pM ?_
                  refine sp pM ?_
                  refine sp (by first | exact pLm sl_25 | exact pLs sl_25) ?_
                  refine sp pB ?_
                  refine oNil ?_
                  refine aCondDec rfl (fun c62 => ?_) (fun c62 => ?_)
                  · skip
                    refine aSkip ?_
                    refine aSeq ?_
                    refine aBlock ?_
                    refine aSeq ?_
                    refine aSeq ?_
                    have hkn : k < (nodesV l).length := by omega
                    have hvk := V.rng k hkn
                    have hrv : ((List.range (nodesV l).length).map fun k => dMx l i k)[((k : Nat) : Int).toNat]? = some (dMx l i k) := by rw [Int.toNat_natCast, List.getElem?_map, List.getElem?_range hkn]; rfl
                    have hni : (nodesV l)[((i : Nat) : Int).toNat]? = some (nsV l i) := by rw [Int.toNat_natCast]; exact nsV_get hin
                    have hnk : (nodesV l)[((k : Nat) : Int).toNat]? = some (nsV l k) := by rw [Int.toNat_natCast]; exact nsV_get hkn
                    refine aDrawT law47_MatrixOf_r17_t law47_MatrixOf_r17_b [] 18 #[false, false, false, false, false, false, false, false, false, false, false, false, false, false, false, false, false, false] (by kernel_rfl) rfl rfl (fun HT => ?_)
                    refine dp HT 0 rfl pM ?_
                    refine dp HT 1 rfl pM ?_
                    first | refine dp HT 2 rfl (pIx es_51) ?_ | (refine obtDN 65 66 rfl rfl (by omega) (fun x67 hx67 => ?_); refine dp HT 2 rfl (pIs es_51 hx67) ?_) | (refine obtD 65 66 rfl rfl (by omega) (by omega) (fun x67 hx67 => ?_); refine dp HT 2 rfl (pIs es_51 hx67) ?_) | refine dp HT 2 rfl (pIo es_51) ?_
                    refine dr HT 3 rfl (by first | exact rS1 ty_54 | exact rB1 ty_54 | exact rAr ty_54 | exact rArL ty_54 | exact rArR2 ty_54) ?_
                    refine dp HT 4 rfl pM ?_
                    first | refine dp HT 5 rfl (pIx es_54) ?_ | (refine obtDN 68 69 rfl rfl (by omega) (fun x70 hx70 => ?_); refine dp HT 5 rfl (pIs es_54 hx70) ?_) | (refine obtD 68 69 rfl rfl (by omega) (by omega) (fun x70 hx70 => ?_); refine dp HT 5 rfl (pIs es_54 hx70) ?_) | refine dp HT 5 rfl (pIo es_54) ?_
                    refine dr HT 6 rfl (by first | exact rS1 ty_37 | exact rB1 ty_37 | exact rAr ty_37 | exact rArL ty_37 | exact rArR2 ty_37) ?_
                    refine dp HT 7 rfl pM ?_
                    refine dp HT 8 rfl pM ?_
                    refine dp HT 9 rfl pM ?_
                    first | refine dp HT 10 rfl (pIx es_25) ?_ | (refine obtDN 73 74 rfl rfl (by omega) (fun x75 hx75 => ?_); refine dp HT 10 rfl (pIs es_25 hx75) ?_) | (refine obtD 73 74 rfl rfl (by omega) (by omega) (fun x75 hx75 => ?_); refine dp HT 10 rfl (pIs es_25 hx75) ?_) | refine dp HT 10 rfl (pIo es_25) ?_
                    refine dr HT 11 rfl (rS1 ty_3) ?_
                    refine dp HT 12 rfl pM ?_
                    refine dp HT 13 rfl pM ?_
                    first | refine dp HT 14 rfl (pIx es_25) ?_ | (refine obtDN 77 78 rfl rfl (by omega) (fun x79 hx79 => ?_); refine dp HT 14 rfl (pIs es_25 hx79) ?_) | (refine obtD 77 78 rfl rfl (by omega) (by omega) (fun x79 hx79 => ?_); refine dp HT 14 rfl (pIs es_25 hx79) ?_) | refine dp HT 14 rfl (pIo es_25) ?_
                    refine dr HT 15 rfl (rS1 ty_3) ?_
                    refine dGo ?_
                    refine e1 HT 16 rfl ?_
                    refine cv rfl rfl rfl (lents_refl _) (ref47_Entry (a := nsV l i) (b := nsV l k) hl (by omega) (by omega) (by omega)) ?_
                    refine ef HT 17 rfl pB ?_
                    refine eE HT ?_
                    clear HT
                    refine aCondNe rfl (fun c82 => ?_) (fun c82 => ?_)
                    · skip
                      refine aSeq ?_
                      refine aReg ?_
                      refine sp pMa ?_
                      refine oNil ?_
                      refine aRet ?_
                      exfalso
                      have he : dMx l i k = if isF l (nsV l i) (nsV l k) then dF l (nsV l i) (nsV l k) else 18446744073709551615 := rfl
                      first
                        | contradiction
                        | (simp_all; done)
                    · skip
                      refine aSkip ?_
                      refine aSeq ?_
                      refine aReg ?_
                      refine sp pMa ?_
                      refine oNil ?_
                      refine aBlock ?_
                      refine loopF (α := Nat) (kept := [(0, _), (4, _), (5, _), (6, _), (7, _)]) (fun j => j ≤ (nodesV l).length) (fun j => [(8, .int j)]) (fun j => []) (fun j => (nodesV l).length - j) 0 ?_ ⟨gInt rfl (by first | rfl | omega | simp), rfl, rfl, rfl, rfl, rfl, trivial⟩ (by repeat constructor) ?_
                      · skip
                        omega
                      · rintro j hj
                        refine aSeq ?_
                        refine aSeq ?_
                        refine aReg ?_
                        refine sp pM ?_
                        refine sp pM ?_
                        refine sp (by first | exact pLm sl_25 | exact pLs sl_25) ?_
                        refine sp pB ?_
                        refine oNil ?_
                        refine aCondDec rfl (fun c86 => ?_) (fun c86 => ?_)
                        · skip
                          refine aSkip ?_
                          refine aSeq ?_
                          refine aBlock ?_
                          refine aSeq ?_
                          have hjn : j < (nodesV l).length := by omega
                          have hrj := rowU_len (dMx l) (nodesV l).length j
                          have hrij : (List.range (nodesV l).length)[((j : Nat) : Int).toNat]? = some j := by rw [Int.toNat_natCast, List.getElem?_range hjn]
                          have hrvj : ((List.range (nodesV l).length).map fun k => dMx l i k)[((j : Nat) : Int).toNat]? = some (dMx l i j) := by rw [Int.toNat_natCast, List.getElem?_map, List.getElem?_range hjn]; rfl
                          have hrvjk : ((List.range (nodesV l).length).map fun k => dMx l j k)[((k : Nat) : Int).toNat]? = some (dMx l j k) := by rw [Int.toNat_natCast, List.getElem?_map, List.getElem?_range hkn]; rfl
                          have g1 := dMx_rng hl (by omega) i j
                          have g2 := dMx_rng hl (by omega) j k
                          have htri := dMx_tri hl (by omega) (i := i) (j := j) (k := k) hvi
                          refine aDrawT law47_MatrixOf_r22_t law47_MatrixOf_r22_b [] 33 #[false, false, false, false, false, false, false, false, false, false, false, false, false, false, false, false, false, false, false, false, false, false, false, false, false, false, false, false, false, false, false, false, false] (by kernel_rfl) rfl rfl (fun HT => ?_)
                          refine dp HT 0 rfl pM ?_
                          refine dp HT 1 rfl pM ?_
                          first | refine dp HT 2 rfl (pIx es_51) ?_ | (refine obtDN 89 90 rfl rfl (by omega) (fun x91 hx91 => ?_); refine dp HT 2 rfl (pIs es_51 hx91) ?_) | (refine obtD 89 90 rfl rfl (by omega) (by omega) (fun x91 hx91 => ?_); refine dp HT 2 rfl (pIs es_51 hx91) ?_) | refine dp HT 2 rfl (pIo es_51) ?_
                          refine dr HT 3 rfl (by first | exact rS1 ty_54 | exact rB1 ty_54 | exact rAr ty_54 | exact rArL ty_54 | exact rArR2 ty_54) ?_
                          refine dp HT 4 rfl (by first | exact pLm sl_54 | exact pLs sl_54 | exact pLv sl_54) ?_
                          refine dp HT 5 rfl pM ?_
                          refine dp HT 6 rfl (by first | exact pLm sl_25 | exact pLs sl_25) ?_
                          refine dp HT 7 rfl pB ?_
                          refine dp HT 8 rfl pM ?_
                          refine dSplitNe 97 rfl (fun c97 => ?_) (fun c97 => ?_)
                          · skip
                            refine dS HT 9 rfl ?_
                            refine dS HT 10 rfl ?_
                            refine dS HT 11 rfl ?_
                            refine dS HT 12 rfl ?_
                            refine dS HT 13 rfl ?_
                            refine dS HT 14 rfl ?_
                            refine dS HT 15 rfl ?_
                            refine dS HT 16 rfl ?_
                            refine dS HT 17 rfl ?_
                            refine dS HT 18 rfl ?_
                            refine dS HT 19 rfl ?_
                            refine dS HT 20 rfl ?_
                            refine dS HT 21 rfl ?_
                            refine dS HT 22 rfl ?_
                            refine dS HT 23 rfl ?_
                            refine dS HT 24 rfl ?_
                            refine dS HT 25 rfl ?_
                            refine dS HT 26 rfl ?_
                            refine dS HT 27 rfl ?_
                            refine dS HT 28 rfl ?_
                            refine dS HT 29 rfl ?_
                            refine dGo ?_
                            refine eS HT 30 rfl ?_
                            refine eS HT 31 rfl ?_
                            refine ef HT 32 rfl pK ?_
                            refine eE HT ?_
                            clear HT
                            refine aCondT rfl ?_
                            refine aSeq ?_
                            refine aReg ?_
                            refine sp pMa ?_
                            refine oNil ?_
                            refine aRet ?_
                            exfalso
                            first
                              | omega
                              | (simp only [List.length_map, List.length_range] at *; omega)
                          · skip
                            refine dpG HT 9 rfl pM ?_
                            refine dpG HT 10 rfl pM ?_
                            first | refine dpG HT 11 rfl (pIx es_51) ?_ | (refine obtDN 98 99 rfl rfl (by omega) (fun x100 hx100 => ?_); refine dpG HT 11 rfl (pIs es_51 hx100) ?_) | (refine obtD 98 99 rfl rfl (by omega) (by omega) (fun x100 hx100 => ?_); refine dpG HT 11 rfl (pIs es_51 hx100) ?_) | refine dpG HT 11 rfl (pIo es_51) ?_
                            refine drG HT 12 rfl (by first | exact rS1 ty_54 | exact rB1 ty_54 | exact rAr ty_54 | exact rArL ty_54 | exact rArR2 ty_54) ?_
                            refine dpG HT 13 rfl pM ?_
                            first | refine dpG HT 14 rfl (pIx es_54) ?_ | (refine obtDN 101 102 rfl rfl (by omega) (fun x103 hx103 => ?_); refine dpG HT 14 rfl (pIs es_54 hx103) ?_) | (refine obtD 101 102 rfl rfl (by omega) (by omega) (fun x103 hx103 => ?_); refine dpG HT 14 rfl (pIs es_54 hx103) ?_) | refine dpG HT 14 rfl (pIo es_54) ?_
                            refine drG HT 15 rfl (by first | exact rS1 ty_37 | exact rB1 ty_37 | exact rAr ty_37 | exact rArL ty_37 | exact rArR2 ty_37) ?_
                            refine dpG HT 16 rfl pM ?_
                            refine dpG HT 17 rfl pM ?_
                            first | refine dpG HT 18 rfl (pIx es_51) ?_ | (refine obtDN 105 106 rfl rfl (by omega) (fun x107 hx107 => ?_); refine dpG HT 18 rfl (pIs es_51 hx107) ?_) | (refine obtD 105 106 rfl rfl (by omega) (by omega) (fun x107 hx107 => ?_); refine dpG HT 18 rfl (pIs es_51 hx107) ?_) | refine dpG HT 18 rfl (pIo es_51) ?_
                            refine drG HT 19 rfl (by first | exact rS1 ty_54 | exact rB1 ty_54 | exact rAr ty_54 | exact rArL ty_54 | exact rArR2 ty_54) ?_
                            refine dpG HT 20 rfl pM ?_
                            first | refine dpG HT 21 rfl (pIx es_54) ?_ | (refine obtDN 108 109 rfl rfl (by omega) (fun x110 hx110 => ?_); refine dpG HT 21 rfl (pIs es_54 hx110) ?_) | (refine obtD 108 109 rfl rfl (by omega) (by omega) (fun x110 hx110 => ?_); refine dpG HT 21 rfl (pIs es_54 hx110) ?_) | refine dpG HT 21 rfl (pIo es_54) ?_
                            refine drG HT 22 rfl (by first | exact rS1 ty_37 | exact rB1 ty_37 | exact rAr ty_37 | exact rArL ty_37 | exact rArR2 ty_37) ?_
                            refine dpG HT 23 rfl pM ?_
                            refine dpG HT 24 rfl pM ?_
                            first | refine dpG HT 25 rfl (pIx es_51) ?_ | (refine obtDN 112 113 rfl rfl (by omega) (fun x114 hx114 => ?_); refine dpG HT 25 rfl (pIs es_51 hx114) ?_) | (refine obtD 112 113 rfl rfl (by omega) (by omega) (fun x114 hx114 => ?_); refine dpG HT 25 rfl (pIs es_51 hx114) ?_) | refine dpG HT 25 rfl (pIo es_51) ?_
                            refine drG HT 26 rfl (by first | exact rS1 ty_54 | exact rB1 ty_54 | exact rAr ty_54 | exact rArL ty_54 | exact rArR2 ty_54) ?_
                            refine dpG HT 27 rfl pM ?_
                            first | refine dpG HT 28 rfl (pIx es_54) ?_ | (refine obtDN 115 116 rfl rfl (by omega) (fun x117 hx117 => ?_); refine dpG HT 28 rfl (pIs es_54 hx117) ?_) | (refine obtD 115 116 rfl rfl (by omega) (by omega) (fun x117 hx117 => ?_); refine dpG HT 28 rfl (pIs es_54 hx117) ?_) | refine dpG HT 28 rfl (pIo es_54) ?_
                            refine drG HT 29 rfl (by first | exact rS1 ty_37 | exact rB1 ty_37 | exact rAr ty_37 | exact rArL ty_37 | exact rArR2 ty_37) ?_
                            refine dGo ?_
                            refine e1G HT 30 rfl ?_
                            refine cv rfl rfl rfl (lents_refl _) (ref22_Add (by omega) (by omega) (by omega) (by omega)) ?_
                            refine efG HT 31 rfl pB ?_
                            refine ef HT 32 rfl pK ?_
                            refine eE HT ?_
                            clear HT
                            refine aCondDec rfl (fun c121 => ?_) (fun c121 => ?_)
                            · skip
                              refine aSeq ?_
                              refine aReg ?_
                              refine sp pMa ?_
                              refine oNil ?_
                              refine aRet ?_
                              exfalso
                              first
                                | omega
                                | (simp only [List.length_map, List.length_range] at *; omega)
                            · skip
                              refine aSkip ?_
                              refine aReg ?_
                              refine sp pM ?_
                              refine sp pAd ?_
                              refine sp pMa ?_
                              refine oNil ?_
                              refine ⟨j + 1, ?_, by (try dsimp only); omega, ⟨gInt rfl (by first | rfl | omega | simp), rfl, rfl, rfl, rfl, rfl, trivial⟩, _, (by repeat constructor)⟩
                              omega
                        · skip
                          refine aExit rfl ?_
                          refine aReg ?_
                          refine sp pM ?_
                          refine sp pAd ?_
                          refine sp pMa ?_
                          refine oNil ?_
                          refine ⟨k + 1, ?_, by (try dsimp only); omega, ⟨gInt rfl (by first | rfl | omega | simp), rfl, rfl, rfl, rfl, trivial⟩, _, (by repeat constructor)⟩
                          omega
                  · skip
                    refine aExit rfl ?_
                    refine aReg ?_
                    refine sp pM ?_
                    refine sp pAd ?_
                    refine sp pMa ?_
                    refine oNil ?_
                    refine ⟨i + 1, ?_, by (try dsimp only); omega, ⟨gInt rfl (by first | rfl | omega | simp), rfl, rfl, rfl, trivial⟩, _, (by repeat constructor)⟩
                    omega
            · skip
              refine aExit rfl ?_
              refine aSeq ?_
              refine aReg ?_
              refine sq ?_
              refine cv rfl rfl rfl (lents_refl _) law47_awake ?_
              refine sp pMa ?_
              refine oNil ?_
              refine aRet ?_
              refine finIs rfl ?_
              rfl
end A
end Go.Proofs.Ytmcannmjielalaa
namespace Go.Proofs.Ytmcannmjielalaa.matrixOf
open Go.ChangeShapes Go.WideShapes Go.ChangeAt Go.RowKit Go.Proofs.Ytmcannmjielalaa.A
open Go.ChangeMaps (open_string shut_string)
set_option linter.unusedVariables false
theorem own : ownKnob Try.prog.godebug = none := by kernel_rfl
theorem laidOut : laidOutB Try.prog = true := A.laidAll
theorem fInPlace : (Rows.matrixOfRow.inPlace == Try.prog.inPlace 7) = true := by kernel_rfl
theorem fUnfollowed : (Rows.matrixOfRow.unfollowed == Try.prog.unfollowed 7) = true := by kernel_rfl
theorem fRecurses : (Rows.matrixOfRow.recurses == Try.prog.recurses 7) = true := by kernel_rfl
theorem fNamed : (Rows.matrixOfRow.named == Try.prog.varsNamed 7) = true := by kernel_rfl
theorem closed : joinedFacts Try.prog 7 Try.f7 Rows.matrixOfSpec Rows.matrixOfRow = true := by
  unfold joinedFacts
  simp only [Bool.and_eq_true]
  refine ⟨⟨⟨⟨⟨⟨⟨⟨⟨⟨⟨⟨⟨⟨⟨⟨⟨⟨⟨⟨⟨⟨⟨⟨⟨⟨⟨⟨⟨⟨⟨?_, A.laidAll⟩, A.mapsAll⟩, ?_⟩, ?_⟩, ?_⟩, ?_⟩, ?_⟩, ?_⟩, fInPlace⟩, fUnfollowed⟩, fRecurses⟩, fNamed⟩, ?_⟩, ?_⟩, ?_⟩, ?_⟩, ?_⟩, ?_⟩, ?_⟩, ?_⟩, ?_⟩, ?_⟩, ?_⟩, A.stopsAll⟩, A.mayE⟩, by rw [A.lifF]; kernel_rfl⟩, by rw [A.mkC]; kernel_rfl⟩, ?_⟩, ?_⟩, ?_⟩, ?_⟩
  all_goals kernel_rfl
set_option maxRecDepth 100000 in
theorem lifted (os : Os) (started : os.Started) (H : Type) (enc : TypeId × Value → H) :
    ReturnsInHanded {} Try.checked os 7 .any (Rows.matrixOfSpec.pre6 enc Try.prog Try.f7 Rows.matrixOfRow.domain false) (Rows.matrixOfSpec.post enc Try.prog Try.f7 false true false false) := by
  refine returnsInHanded_of_change_sized (C := Try.checked) own started (by kernel_rfl) Try.func7
    (ChangeSpec.witness6 (enc := enc) (C := Try.checked) false ⟨#[], #[.slice none 0 0], []⟩ 8 (by kernel_rfl) (by kernel_rfl) (by kernel_rfl) (by kernel_rfl)) ?_
  intro W base args ds gs before hval0 hW hcnd hsz0 _
  have hval : ∀ (j : Nat) t v, Try.f7.params[j]? = some t → args[j]? = some v → Value.okWide Try.prog W .any base t v := hval0
  have hW' := hW
  obtain ⟨p, q, hA0, hV, rfl, hfz, hnd⟩ := hW
  have hA : DataW.TrodAll enc Try.prog W 0 (fun _ => true) true Try.f7.params.toList args.toList ds p := hA0
  rw [Try.params7] at hA hval
  obtain ⟨v0, vs0, d0, ds0, p0, q0, hargs, rfl, rfl, h0, r0⟩ := trodAll_cons hA
  obtain ⟨rfl, rfl, rfl⟩ := trodAll_nil r0
  obtain rfl : args = #[v0] := by cases args; simp_all
  obtain ⟨rfl, rfl⟩ := trodVars_none hV
  have k0 := h0
  have lt0 : ∀ x ∈ p0, x.block < W.heap.size := by obtain ⟨m, hm⟩ := k0; exact DataW.trod_lt m _ _ _ hm
  have one0 : v0.oneCell' = true := by obtain ⟨_, _, _, rfl⟩ := okWide_slice Try.underlying22 (hval 0 22 v0 rfl rfl); rfl
  obtain ⟨a0, w0, rep0⟩ := argOne (opSlice Try.underlying22 (by kernel_rfl) (by decide) op_Arc) one0 h0
  refine (law_calls (law47_MatrixOf (l := a0) w0.2) (reps_cons rep0 reps_nil)).mono fun e W' ⟨he, bel⟩ => ?_
  subst he
  exact ⟨_, rfl, _, _, _, [], _, [], hW', trodAll_mk1 (shut_bool Try.underlying4 _), (trodAll_cons_mk (Below.trod laidOut (by kernel_rfl) (of_decide_eq_true (by kernel_rfl)) k0 bel lt0) trodAll_mk0), rfl, bel.frame _, fun h => by cases h⟩
theorem over : Rows.matrixOfRow.holds Try.pinned (OpenSpec.ofChange Rows.matrixOfSpec) :=
  OpenClaim.holds_of_wide 7 Try.f7 rfl rfl rfl rfl rfl rfl rfl ⟨rfl, rfl, rfl, rfl, rfl⟩ rfl rfl rfl rfl rfl (by kernel_rfl) Try.func7 closed
    (of_decide_eq_true (by kernel_rfl)) (by unfold Func.isWrapper; first | (rw [if_pos (by decide +kernel)]; kernel_rfl) | (rw [if_neg (by decide +kernel)]; exact ⟨rfl, rfl⟩))
    (fun os started H enc _ => lifted os started H enc)
theorem proved : Rows.MatrixOfSaid := over
#print axioms proved
end Go.Proofs.Ytmcannmjielalaa.matrixOf
