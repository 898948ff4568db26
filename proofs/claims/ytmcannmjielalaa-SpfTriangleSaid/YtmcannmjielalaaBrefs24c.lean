/- What functions of the program compute: refs24c -/
import Derived.Test.YtmcannmjielalaaBgraph24b
import Derived.Test.YtmcannmjielalaaProg
import Derived.KernelRfl
set_option linter.unusedVariables false
set_option linter.unusedSimpArgs false
namespace Go.Proofs.Ytmcannmjielalaa
namespace A

theorem filter_take {α : Type} {p : α → Bool} {l : List α} {i : Nat} {a : α} (h : l[i]? = some a) : (l.take (i + 1)).filter p = (l.take i).filter p ++ if p a then [a] else [] := by
  rw [take_step h, List.filter_append]
  cases hp : p a <;> simp [hp]
theorem filter_len {α : Type} {p : α → Bool} {l : List α} {i : Nat} : ((l.take i).filter p).length ≤ i := by
  refine Nat.le_trans (List.length_filter_le _ _) ?_
  rw [List.length_take]
  omega

/- waymarkref24.From -/
set_option maxRecDepth 100000 in
set_option maxHeartbeats 400000 in
theorem ref24_From {l : List Arc} {n : Int} (hl : l.length ≤ 1000000 := by omega) : Triple Try.prog 33 [.sl 3 (l.map arcC), .int n] [] (Own 36 3 ((fromM l n).map arcC) []) := by
  refine triple_of Try.func33 rfl (by kernel_rfl) rfl (by simp) ?_
  refine aSeq ?_
  refine aReg ?_
  refine sp pMa ?_
  refine oNil ?_
  refine aSeq ?_
  refine aReg ?_
  refine sq ?_
  refine qLit (l := []) rfl rfl (by decide) us_22 ty_36 ze_36 rfl (by decide) (by decide) rfl rfl rfl (fun b7 => ?_)
  refine sp pMa ?_
  refine oNil ?_
  refine aSeq ?_
  refine aSeq ?_
  refine aReg ?_
  refine sp pMa ?_
  refine oNil ?_
  refine aBlock ?_
  refine loopF (α := Nat × List Arc × Option Nat × Nat) (kept := [(0, _), (1, _)]) (fun (i, out, g, c) => i ≤ l.length ∧ out = (l.take i).filter (fun a => a.f == n)) (fun (i, out, g, c) => [(6, .int i), (5, .v (slV g out.length c))]) (fun (i, out, g, c) => [.sl g c 36 3 (out.map arcC)]) (fun (i, out, g, c) => l.length - i) (0, [], _, _) ?_ ⟨gInt rfl (by first | rfl | omega | simp), gLen rfl (by first | rfl | simp | (simp; omega)), rfl, rfl, trivial⟩ (by repeat constructor) ?_
  · skip
    exact ⟨by omega, rfl⟩
  · rintro ⟨i, out, g, c⟩ ⟨hi, ho⟩
    refine aSeq ?_
    refine aSeq ?_
    refine aReg ?_
    refine sp pM ?_
    refine sp pM ?_
    refine sp (by first | exact pLm sl_22 | exact pLs sl_22) ?_
    refine sp pB ?_
    refine oNil ?_
    refine aCondDec rfl (fun c11 => ?_) (fun c11 => ?_)
    · skip
      refine aSkip ?_
      refine aSeq ?_
      refine aBlock ?_
      refine aSeq ?_
      obtain ⟨a, ha⟩ : ∃ a, l[i]? = some a := ⟨_, List.getElem?_eq_getElem (by omega)⟩
      refine aReg ?_
      refine sp pM ?_
      refine sp pM ?_
      first | refine sp (pIx es_22) ?_ | (refine obtSN 14 15 rfl rfl (by omega) (fun x16 hx16 => ?_); refine sp (pIs es_22 hx16) ?_) | (refine obtS 14 15 rfl rfl (by omega) (by omega) (fun x16 hx16 => ?_); refine sp (pIs es_22 hx16) ?_) | refine sp (pIo es_22) ?_
      refine sp (pFs fd_36_0) ?_
      refine sr (rS1 ty_3) ?_
      refine sp pM ?_
      refine sp pB ?_
      refine oNil ?_
      refine aCondEq rfl (fun c20 => ?_) (fun c20 => ?_)
      · skip
        refine aReg ?_
        refine sp pM ?_
        refine sp pM ?_
        refine sp pM ?_
        first | refine sp (pIx es_22) ?_ | (refine obtSN 22 23 rfl rfl (by omega) (fun x24 hx24 => ?_); refine sp (pIs es_22 hx24) ?_) | (refine obtS 22 23 rfl rfl (by omega) (by omega) (fun x24 hx24 => ?_); refine sp (pIs es_22 hx24) ?_) | refine sp (pIo es_22) ?_
        refine sr (by first | exact rSW ty_36 rfl | exact rSA ty_36) ?_
        refine sq ?_
        refine qLit (l := [_]) rfl rfl (by decide) us_22 ty_36 ze_36 rfl (by decide) (by decide) rfl rfl rfl (fun b26 => ?_)
        have hol : out.length ≤ 1000000 := by have := filter_len (p := fun a => a.f == n) (l := l) (i := i); rw [ho]; omega
        refine sa ?_
        refine oAppT [_] rfl rfl (by repeat constructor) (srcOwn rfl (by repeat constructor) rfl) el_22 sl_22 (fun g27 k27 => ?_)
        refine sp pMa ?_
        refine oNil ?_
        refine aReg ?_
        refine sp pM ?_
        refine sp pAd ?_
        refine sp pMa ?_
        refine oNil ?_
        refine ⟨(i + 1, _, _, _), ?_, by (try dsimp only); omega, ⟨gInt rfl (by first | rfl | omega | simp), gLen rfl (by first | rfl | simp | (simp; omega)), rfl, rfl, trivial⟩, _, (by repeat constructor)⟩
        refine ⟨by omega, ?_⟩
        rw [filter_take ha, ← ho]
        first
          | (rw [if_pos (by simp_all)]; done)
          | (rw [if_neg (by simp_all), List.append_nil]; done)
      · skip
        refine aSkip ?_
        refine aReg ?_
        refine sp pM ?_
        refine sp pAd ?_
        refine sp pMa ?_
        refine oNil ?_
        refine ⟨(i + 1, _, _, _), ?_, by (try dsimp only); omega, ⟨gInt rfl (by first | rfl | omega | simp), gLen rfl (by first | rfl | simp | (simp; omega)), rfl, rfl, trivial⟩, _, (by repeat constructor)⟩
        refine ⟨by omega, ?_⟩
        rw [filter_take ha, ← ho]
        first
          | (rw [if_pos (by simp_all)]; done)
          | (rw [if_neg (by simp_all), List.append_nil]; done)
    · skip
      refine aExit rfl ?_
      refine aSeq ?_
      refine aReg ?_
      refine sp pM ?_
      refine sp pMa ?_
      refine oNil ?_
      refine aRet ?_
      refine finOwn rfl ?_
      rw [ho, take_all (by omega)]
      rfl

/- waymarkref24.Cut -/
set_option maxRecDepth 100000 in
set_option maxHeartbeats 400000 in
theorem ref24_Cut {l : List Arc} {n : Int} (hl : l.length ≤ 1000000 := by omega) : Triple Try.prog 34 [.sl 3 (l.map arcC), .int n] [] (Own 36 3 ((cutM l n).map arcC) []) := by
  refine triple_of Try.func34 rfl (by kernel_rfl) rfl (by simp) ?_
  refine aSeq ?_
  refine aReg ?_
  refine sp pMa ?_
  refine oNil ?_
  refine aSeq ?_
  refine aReg ?_
  refine sq ?_
  refine qLit (l := []) rfl rfl (by decide) us_22 ty_36 ze_36 rfl (by decide) (by decide) rfl rfl rfl (fun b7 => ?_)
  refine sp pMa ?_
  refine oNil ?_
  refine aSeq ?_
  refine aSeq ?_
  refine aReg ?_
  refine sp pMa ?_
  refine oNil ?_
  refine aBlock ?_
  refine loopF (α := Nat × List Arc × Option Nat × Nat) (kept := [(0, _), (1, _)]) (fun (i, out, g, c) => i ≤ l.length ∧ out = (l.take i).filter (fun a => a.f != n && a.t != n)) (fun (i, out, g, c) => [(6, .int i), (5, .v (slV g out.length c))]) (fun (i, out, g, c) => [.sl g c 36 3 (out.map arcC)]) (fun (i, out, g, c) => l.length - i) (0, [], _, _) ?_ ⟨gInt rfl (by first | rfl | omega | simp), gLen rfl (by first | rfl | simp | (simp; omega)), rfl, rfl, trivial⟩ (by repeat constructor) ?_
  · skip
    exact ⟨by omega, rfl⟩
  · rintro ⟨i, out, g, c⟩ ⟨hi, ho⟩
    refine aSeq ?_
    refine aSeq ?_
    refine aReg ?_
    refine sp pM ?_
    refine sp pM ?_
    refine sp (by first | exact pLm sl_22 | exact pLs sl_22) ?_
    refine sp pB ?_
    refine oNil ?_
    refine aCondDec rfl (fun c11 => ?_) (fun c11 => ?_)
    · skip
      refine aSkip ?_
      refine aSeq ?_
      refine aBlock ?_
      refine aSeq ?_
      obtain ⟨a, ha⟩ : ∃ a, l[i]? = some a := ⟨_, List.getElem?_eq_getElem (by omega)⟩
      refine aReg ?_
      refine sp pM ?_
      refine sp pM ?_
      first | refine sp (pIx es_22) ?_ | (refine obtSN 14 15 rfl rfl (by omega) (fun x16 hx16 => ?_); refine sp (pIs es_22 hx16) ?_) | (refine obtS 14 15 rfl rfl (by omega) (by omega) (fun x16 hx16 => ?_); refine sp (pIs es_22 hx16) ?_) | refine sp (pIo es_22) ?_
      refine sp (pFs fd_36_0) ?_
      refine sr (rS1 ty_3) ?_
      refine sp pM ?_
      refine sp pB ?_
      refine sp pM ?_
      refine oSplitNe 21 rfl (fun c21 => ?_) (fun c21 => ?_)
      · skip
        refine gp pM ?_
        refine gp pM ?_
        first | refine gp (pIx es_22) ?_ | (refine obtSN 22 23 rfl rfl (by omega) (fun x24 hx24 => ?_); refine gp (pIs es_22 hx24) ?_) | (refine obtS 22 23 rfl rfl (by omega) (by omega) (fun x24 hx24 => ?_); refine gp (pIs es_22 hx24) ?_) | refine gp (pIo es_22) ?_
        refine gp (pFs fd_36_1) ?_
        refine gr (rS1 ty_3) ?_
        refine gp pM ?_
        refine gp pB ?_
        refine sp pK ?_
        refine oNil ?_
        refine aCondNe rfl (fun c29 => ?_) (fun c29 => ?_)
        · skip
          refine aReg ?_
          refine sp pM ?_
          refine sp pM ?_
          refine sp pM ?_
          first | refine sp (pIx es_22) ?_ | (refine obtSN 31 32 rfl rfl (by omega) (fun x33 hx33 => ?_); refine sp (pIs es_22 hx33) ?_) | (refine obtS 31 32 rfl rfl (by omega) (by omega) (fun x33 hx33 => ?_); refine sp (pIs es_22 hx33) ?_) | refine sp (pIo es_22) ?_
          refine sr (by first | exact rSW ty_36 rfl | exact rSA ty_36) ?_
          refine sq ?_
          refine qLit (l := [_]) rfl rfl (by decide) us_22 ty_36 ze_36 rfl (by decide) (by decide) rfl rfl rfl (fun b35 => ?_)
          have hol : out.length ≤ 1000000 := by have := filter_len (p := fun a => a.f != n && a.t != n) (l := l) (i := i); rw [ho]; omega
          refine sa ?_
          refine oAppT [_] rfl rfl (by repeat constructor) (srcOwn rfl (by repeat constructor) rfl) el_22 sl_22 (fun g36 k36 => ?_)
          refine sp pMa ?_
          refine oNil ?_
          refine aReg ?_
          refine sp pM ?_
          refine sp pAd ?_
          refine sp pMa ?_
          refine oNil ?_
          refine ⟨(i + 1, _, _, _), ?_, by (try dsimp only); omega, ⟨gInt rfl (by first | rfl | omega | simp), gLen rfl (by first | rfl | simp | (simp; omega)), rfl, rfl, trivial⟩, _, (by repeat constructor)⟩
          refine ⟨by omega, ?_⟩
          rw [filter_take ha, ← ho]
          first
            | (rw [if_pos (by simp_all)]; done)
            | (rw [if_neg (by simp_all), List.append_nil]; done)
        · skip
          refine aSkip ?_
          refine aReg ?_
          refine sp pM ?_
          refine sp pAd ?_
          refine sp pMa ?_
          refine oNil ?_
          refine ⟨(i + 1, _, _, _), ?_, by (try dsimp only); omega, ⟨gInt rfl (by first | rfl | omega | simp), gLen rfl (by first | rfl | simp | (simp; omega)), rfl, rfl, trivial⟩, _, (by repeat constructor)⟩
          refine ⟨by omega, ?_⟩
          rw [filter_take ha, ← ho]
          first
            | (rw [if_pos (by simp_all)]; done)
            | (rw [if_neg (by simp_all), List.append_nil]; done)
      · skip
        refine gf ?_
        refine gf ?_
        refine gf ?_
        refine gf ?_
        refine gf ?_
        refine gf ?_
        refine gf ?_
        refine sp pK ?_
        refine oNil ?_
        refine aCondF rfl ?_
        refine aSkip ?_
        refine aReg ?_
        refine sp pM ?_
        refine sp pAd ?_
        refine sp pMa ?_
        refine oNil ?_
        refine ⟨(i + 1, _, _, _), ?_, by (try dsimp only); omega, ⟨gInt rfl (by first | rfl | omega | simp), gLen rfl (by first | rfl | simp | (simp; omega)), rfl, rfl, trivial⟩, _, (by repeat constructor)⟩
        refine ⟨by omega, ?_⟩
        rw [filter_take ha, ← ho]
        first
          | (rw [if_pos (by simp_all)]; done)
          | (rw [if_neg (by simp_all), List.append_nil]; done)
    · skip
      refine aExit rfl ?_
      refine aSeq ?_
      refine aReg ?_
      refine sp pM ?_
      refine sp pMa ?_
      refine oNil ?_
      refine aRet ?_
      refine finOwn rfl ?_
      rw [ho, take_all (by omega)]
      rfl

theorem nodes_step {l : List Arc} {n : Nat} (h : n < 64) : ((List.range (n + 1 + 1)).map fun (i : Nat) => (i : Int)).filter (fun v => l.any (endP v)) = ((List.range (n + 1)).map fun (i : Nat) => (i : Int)).filter (fun v => l.any (endP v)) ++ if l.any (endP ((n + 1 : Nat) : Int)) then [((n + 1 : Nat) : Int)] else [] := by
  rw [List.range_succ, List.map_append, List.filter_append]
  congr 1
  rw [List.map_singleton, List.filter_cons, List.filter_nil]
theorem nodes_zero {l : List Arc} (hl : ∀ a ∈ l, AOk a) : ((List.range (0 + 1)).map fun (i : Nat) => (i : Int)).filter (fun v => l.any (endP v)) = [] := by
  have : l.any (endP 0) = false := by
    rw [List.any_eq_false]
    intro a ha
    have := hl a ha
    unfold AOk at this
    simp [endP]
    omega
  simp [this]
theorem any_take24 {α : Type} {p : α → Bool} {l : List α} {i : Nat} {a : α} (h : l[i]? = some a) : (l.take (i + 1)).any p = ((l.take i).any p || p a) := by rw [take_step h]; simp

/- waymarkref24.Nodes -/
set_option maxRecDepth 100000 in
set_option maxHeartbeats 1000000 in
theorem ref24_Nodes {l : List Arc} (hl : l.length ≤ 1000000 := by omega) (hok : ∀ a ∈ l, AOk a) : Triple Try.prog 36 [.sl 3 (l.map arcC)] [] (Own 3 1 ((nodesM l).map intA) []) := by
  refine triple_of Try.func36 rfl (by kernel_rfl) rfl (by simp) ?_
  refine aSeq ?_
  refine aReg ?_
  refine sp pMa ?_
  refine oNil ?_
  refine aSeq ?_
  refine aReg ?_
  refine sq ?_
  refine qLit (l := []) rfl rfl (by decide) us_25 ty_3 ze_3 rfl (by decide) (by decide) rfl rfl rfl (fun b7 => ?_)
  refine sp pMa ?_
  refine oNil ?_
  refine aSeq ?_
  refine aSeq ?_
  refine aReg ?_
  refine sp pMa ?_
  refine oNil ?_
  refine aBlock ?_
  refine loopF (α := Nat × List Int × Option Nat × Nat) (kept := [(0, _)]) (fun (n, out, g, c) => n ≤ 64 ∧ out = ((List.range (n + 1)).map fun (i : Nat) => (i : Int)).filter (fun v => l.any (endP v))) (fun (n, out, g, c) => [(4, .int ((n + 1 : Nat) : Int)), (3, .v (slV g out.length c))]) (fun (n, out, g, c) => [.sl g c 3 1 (out.map intA)]) (fun (n, out, g, c) => 64 - n) (0, [], _, _) ?_ ⟨gInt rfl (by first | rfl | omega | simp), gLen rfl (by first | rfl | simp | (simp; omega)), rfl, trivial⟩ (by repeat constructor) ?_
  · skip
    exact ⟨by omega, (nodes_zero hok).symm⟩
  · rintro ⟨n, out, g, c⟩ ⟨hn, ho⟩
    refine aSeq ?_
    refine aSeq ?_
    refine aReg ?_
    refine sp pM ?_
    refine sp pB ?_
    refine oNil ?_
    refine aCondDec rfl (fun c9 => ?_) (fun c9 => ?_)
    · skip
      refine aSkip ?_
      refine aSeq ?_
      refine aBlock ?_
      refine aSeq ?_
      refine aReg ?_
      refine sp pMa ?_
      refine oNil ?_
      refine aSeq ?_
      refine aSeq ?_
      refine aReg ?_
      refine sp pMa ?_
      refine oNil ?_
      refine aBlock ?_
      refine loopF (α := Nat × Bool) (kept := [(0, _), (3, _), (4, _)]) (fun (i, q) => i ≤ l.length ∧ q = (l.take i).any (endP ((n + 1 : Nat) : Int))) (fun (i, q) => [(6, .int i), (5, .v (.bool q))]) (fun (i, q) => []) (fun (i, q) => l.length - i) (0, false) ?_ ⟨gInt rfl (by first | rfl | omega | simp), rfl, rfl, rfl, rfl, trivial⟩ (by repeat constructor) ?_
      · skip
        exact ⟨by omega, rfl⟩
      · rintro ⟨i, q⟩ ⟨hi, hv⟩
        refine aSeq ?_
        refine aSeq ?_
        refine aReg ?_
        refine sp pM ?_
        refine sp pM ?_
        refine sp (by first | exact pLm sl_22 | exact pLs sl_22) ?_
        refine sp pB ?_
        refine oNil ?_
        refine aCondDec rfl (fun c15 => ?_) (fun c15 => ?_)
        · skip
          refine aSkip ?_
          refine aSeq ?_
          refine aBlock ?_
          obtain ⟨a, ha⟩ : ∃ a, l[i]? = some a := ⟨_, List.getElem?_eq_getElem (by omega)⟩
          refine aReg ?_
          refine sp pM ?_
          refine sp pM ?_
          refine oSplit 19 rfl (fun c19 => ?_) (fun c19 => ?_)
          · skip
            refine gf ?_
            refine gf ?_
            refine gf ?_
            refine gf ?_
            refine gf ?_
            refine gf ?_
            refine gf ?_
            refine sp pK ?_
            refine sp pM ?_
            refine gf ?_
            refine gf ?_
            refine gf ?_
            refine gf ?_
            refine gf ?_
            refine gf ?_
            refine gf ?_
            refine sp pK ?_
            refine sp pMa ?_
            refine oNil ?_
            refine aReg ?_
            refine sp pM ?_
            refine sp pAd ?_
            refine sp pMa ?_
            refine oNil ?_
            refine ⟨(i + 1, _), ?_, by (try dsimp only); omega, ⟨gInt rfl (by first | rfl | omega | simp), rfl, rfl, rfl, rfl, trivial⟩, _, (by repeat constructor)⟩
            refine ⟨by omega, ?_⟩
            rw [any_take24 ha, ← hv]
            clear hv
            simp_all [endP]
          · skip
            refine gp pM ?_
            refine gp pM ?_
            first | refine gp (pIx es_22) ?_ | (refine obtSN 20 21 rfl rfl (by omega) (fun x22 hx22 => ?_); refine gp (pIs es_22 hx22) ?_) | (refine obtS 20 21 rfl rfl (by omega) (by omega) (fun x22 hx22 => ?_); refine gp (pIs es_22 hx22) ?_) | refine gp (pIo es_22) ?_
            refine gp (pFs fd_36_0) ?_
            refine gr (rS1 ty_3) ?_
            refine gp pM ?_
            refine gp pB ?_
            refine sp pK ?_
            refine sp pM ?_
            refine oSplitEq 28 rfl (fun c28 => ?_) (fun c28 => ?_)
            · skip
              refine gf ?_
              refine gf ?_
              refine gf ?_
              refine gf ?_
              refine gf ?_
              refine gf ?_
              refine gf ?_
              refine sp pK ?_
              refine sp pMa ?_
              refine oNil ?_
              refine aReg ?_
              refine sp pM ?_
              refine sp pAd ?_
              refine sp pMa ?_
              refine oNil ?_
              refine ⟨(i + 1, _), ?_, by (try dsimp only); omega, ⟨gInt rfl (by first | rfl | omega | simp), rfl, rfl, rfl, rfl, trivial⟩, _, (by repeat constructor)⟩
              refine ⟨by omega, ?_⟩
              rw [any_take24 ha, ← hv]
              clear hv
              simp_all [endP]
            · skip
              refine gp pM ?_
              refine gp pM ?_
              first | refine gp (pIx es_22) ?_ | (refine obtSN 29 30 rfl rfl (by omega) (fun x31 hx31 => ?_); refine gp (pIs es_22 hx31) ?_) | (refine obtS 29 30 rfl rfl (by omega) (by omega) (fun x31 hx31 => ?_); refine gp (pIs es_22 hx31) ?_) | refine gp (pIo es_22) ?_
              refine gp (pFs fd_36_1) ?_
              refine gr (rS1 ty_3) ?_
              refine gp pM ?_
              refine gp pB ?_
              refine sp pK ?_
              refine sp pMa ?_
              refine oNil ?_
              refine aReg ?_
              refine sp pM ?_
              refine sp pAd ?_
              refine sp pMa ?_
              refine oNil ?_
              refine ⟨(i + 1, _), ?_, by (try dsimp only); omega, ⟨gInt rfl (by first | rfl | omega | simp), rfl, rfl, rfl, rfl, trivial⟩, _, (by repeat constructor)⟩
              refine ⟨by omega, ?_⟩
              rw [any_take24 ha, ← hv]
              clear hv
              simp_all [endP]
        · skip
          refine aExit rfl ?_
          refine aSeq ?_
          refine aReg ?_
          refine sp pM ?_
          refine oNil ?_
          refine aCond rfl (fun c37 => ?_) (fun c37 => ?_)
          · skip
            refine aReg ?_
            refine sp pM ?_
            refine sp pM ?_
            refine sq ?_
            refine qLit (l := [_]) rfl rfl (by decide) us_25 ty_3 ze_3 rfl (by decide) (by decide) rfl rfl rfl (fun b40 => ?_)
            have hol : out.length ≤ 1000 := by
              rw [ho]
              refine Nat.le_trans (List.length_filter_le _ _) ?_
              simp
              omega
            refine sa ?_
            refine oAppT [_] rfl rfl (by repeat constructor) (srcOwn rfl (by repeat constructor) rfl) el_25 sl_25 (fun g41 k41 => ?_)
            refine sp pMa ?_
            refine oNil ?_
            refine aReg ?_
            refine sp pM ?_
            refine sp pAd ?_
            refine sp pMa ?_
            refine oNil ?_
            refine ⟨(n + 1, _, _, _), ?_, by (try dsimp only); omega, ⟨gInt rfl (by first | rfl | omega | simp), gLen rfl (by first | rfl | simp | (simp; omega)), rfl, trivial⟩, _, (by repeat constructor)⟩
            obtain rfl : i = l.length := by omega
            rw [List.take_length] at hv
            refine ⟨by omega, ?_⟩
            rw [nodes_step (by omega), ← ho]
            first
              | (rw [if_pos (by simp_all)]; done)
              | (rw [if_neg (by simp_all), List.append_nil]; done)
          · skip
            refine aSkip ?_
            refine aReg ?_
            refine sp pM ?_
            refine sp pAd ?_
            refine sp pMa ?_
            refine oNil ?_
            refine ⟨(n + 1, _, _, _), ?_, by (try dsimp only); omega, ⟨gInt rfl (by first | rfl | omega | simp), gLen rfl (by first | rfl | simp | (simp; omega)), rfl, trivial⟩, _, (by repeat constructor)⟩
            obtain rfl : i = l.length := by omega
            rw [List.take_length] at hv
            refine ⟨by omega, ?_⟩
            rw [nodes_step (by omega), ← ho]
            first
              | (rw [if_pos (by simp_all)]; done)
              | (rw [if_neg (by simp_all), List.append_nil]; done)
    · skip
      refine aExit rfl ?_
      refine aSeq ?_
      refine aReg ?_
      refine sp pM ?_
      refine sp pMa ?_
      refine oNil ?_
      refine aRet ?_
      refine finOwn rfl ?_
      obtain rfl : n = 64 := by omega
      rw [ho]
      rfl

/- waymarkref24.Ints -/
def ref24_Ints_r6_T : Bool × List (List Nat × List Nat) := (true, [([], []), ([], []), ([0, 1], [0, 1]), ([2], [2]), ([], []), ([], []), ([4, 5], [4, 5]), ([6], [6]), ([3, 7], [3, 7])])
def ref24_Ints_r6_B : List Nat := [0, 0, 3, 7, 0, 0, 48, 112, 255]
theorem ref24_Ints_r6_t : Go.Proofs.YtmcannmjielalaaW.PrintLast.rtab .any (Go.Proofs.YtmcannmjielalaaW.PrintLast.opsOf Try.f35 6) = ref24_Ints_r6_T := by kernel_rfl
theorem ref24_Ints_r6_b : Go.Proofs.YtmcannmjielalaaW.PrintLast.waitsOk ref24_Ints_r6_T.2 ref24_Ints_r6_B = true := by kernel_rfl
set_option maxRecDepth 100000 in
set_option maxHeartbeats 400000 in
theorem ref24_Ints {a b : List Int} (ha : a.length < 9223372036854775807 := by omega) (hb : b.length < 9223372036854775807 := by omega) : Triple Try.prog 35 [.sl 1 (a.map intA), .sl 1 (b.map intA)] [] (Is (.v (.bool (decide (a = b)))) []) := by
  refine triple_of Try.func35 rfl (by kernel_rfl) rfl (by simp) ?_
  refine aSeq ?_
  refine aReg ?_
  refine sp pMa ?_
  refine oNil ?_
  refine aSeq ?_
  refine aSeq ?_
  refine aReg ?_
  refine sp pM ?_
  refine sp (by first | exact pLm sl_25 | exact pLs sl_25) ?_
  refine sp pM ?_
  refine sp (by first | exact pLm sl_25 | exact pLs sl_25) ?_
  refine sp pB ?_
  refine oNil ?_
  refine aCondNe rfl (fun c10 => ?_) (fun c10 => ?_)
  · skip
    refine aSeq ?_
    refine aReg ?_
    refine sp pMa ?_
    refine oNil ?_
    refine aRet ?_
    refine finIs rfl ?_
    rw [decide_eq_false (fun e => by subst e; simp at c10)]
    rfl
  · skip
    refine aSkip ?_
    refine aSeq ?_
    refine aSeq ?_
    refine aReg ?_
    refine sp pMa ?_
    refine oNil ?_
    refine aBlock ?_
    refine loopF (α := Nat) (kept := [(0, _), (1, _)]) (fun i => i ≤ a.length ∧ a.length = b.length ∧ a.take i = b.take i) (fun i => [(5, .int i)]) (fun i => []) (fun i => a.length - i) 0 ?_ ⟨gInt rfl (by first | rfl | omega | simp), rfl, rfl, trivial⟩ (by repeat constructor) ?_
    · skip
      exact ⟨by omega, by omega, rfl⟩
    · rintro i ⟨hi, hl, hv⟩
      refine aSeq ?_
      refine aSeq ?_
      refine aReg ?_
      refine sp pM ?_
      refine sp pM ?_
      refine sp (by first | exact pLm sl_25 | exact pLs sl_25) ?_
      refine sp pB ?_
      refine oNil ?_
      refine aCondDec rfl (fun c14 => ?_) (fun c14 => ?_)
      · skip
        refine aSkip ?_
        refine aSeq ?_
        refine aBlock ?_
        refine aSeq ?_
        refine aDrawT ref24_Ints_r6_t ref24_Ints_r6_b [] 9 #[false, false, false, false, false, false, false, false, false] (by kernel_rfl) rfl rfl (fun HT => ?_)
        refine dp HT 0 rfl pM ?_
        refine dp HT 1 rfl pM ?_
        first | refine dp HT 2 rfl (pIx es_25) ?_ | (refine obtDN 17 18 rfl rfl (by omega) (fun x19 hx19 => ?_); refine dp HT 2 rfl (pIs es_25 hx19) ?_) | (refine obtD 17 18 rfl rfl (by omega) (by omega) (fun x19 hx19 => ?_); refine dp HT 2 rfl (pIs es_25 hx19) ?_) | refine dp HT 2 rfl (pIo es_25) ?_
        refine dr HT 3 rfl (rS1 ty_3) ?_
        refine dp HT 4 rfl pM ?_
        refine dp HT 5 rfl pM ?_
        first | refine dp HT 6 rfl (pIx es_25) ?_ | (refine obtDN 21 22 rfl rfl (by omega) (fun x23 hx23 => ?_); refine dp HT 6 rfl (pIs es_25 hx23) ?_) | (refine obtD 21 22 rfl rfl (by omega) (by omega) (fun x23 hx23 => ?_); refine dp HT 6 rfl (pIs es_25 hx23) ?_) | refine dp HT 6 rfl (pIo es_25) ?_
        refine dr HT 7 rfl (rS1 ty_3) ?_
        refine dp HT 8 rfl pB ?_
        refine dE HT ?_
        clear HT
        refine aCondNe rfl (fun c25 => ?_) (fun c25 => ?_)
        · skip
          refine aSeq ?_
          refine aReg ?_
          refine sp pMa ?_
          refine oNil ?_
          refine aRet ?_
          refine finIs rfl ?_
          rw [decide_eq_false (fun e => by subst e; obtain rfl := Option.some.inj (hx19.symm.trans hx23); simp at c25)]
          rfl
        · skip
          refine aSkip ?_
          refine aReg ?_
          refine sp pM ?_
          refine sp pAd ?_
          refine sp pMa ?_
          refine oNil ?_
          refine ⟨i + 1, ?_, by (try dsimp only); omega, ⟨gInt rfl (by first | rfl | omega | simp), rfl, rfl, trivial⟩, _, (by repeat constructor)⟩
          have hxy : x19 = x23 := by assumption
          exact ⟨by omega, hl, by rw [take_step hx19, take_step hx23, hv, hxy]⟩
      · skip
        refine aExit rfl ?_
        refine aSeq ?_
        refine aReg ?_
        refine sp pMa ?_
        refine oNil ?_
        refine aRet ?_
        refine finIs rfl ?_
        rw [take_all (by omega), take_all (by omega)] at hv
        rw [decide_eq_true hv]
        rfl

end A
end Go.Proofs.Ytmcannmjielalaa
