/- Whatever the input, waymarklaw37.SpareFree returns true, and each argument reads as it did. -/
import Derived.KernelRfl
import Derived.Test.YtmcannmjielalaaProg
import Derived.Test.YtmcannmjielalaaS12SpareFree
set_option linter.unusedVariables false
set_option linter.unusedSimpArgs false
namespace Go.Proofs.Ytmcannmjielalaa
namespace A
theorem el_65 : elemOf Try.prog 65 = some (68, 3, 24) := by kernel_rfl
theorem sl_65 : isSl Try.prog 65 = true := by kernel_rfl
theorem st_68 : structPlaces Try.prog 68 = some [(0, 1), (1, 1), (2, 1)] := by kernel_rfl
theorem ty_68 : tyOf Try.prog 68 = some (3, true) := by kernel_rfl
theorem us_65 : Try.prog.underlying 65 = some (.slice 68) := by kernel_rfl
theorem ze_68 : zeroOf Try.prog 68 = some (.agg #[.int .i64 0, .int .i64 0, .int .u64 0]) := by kernel_rfl
structure Sp where
  nd : Int
  via : Int
  d : Int
  deriving DecidableEq, Inhabited
def spC3 (s : Sp) : List AV := [.int s.nd, .int s.via, .v (.int .u64 s.d)]
def distM (l : List Arc) (a b : Int) : Int := if dstB l a b then dstM l a b else farI
def freeB (l : List Arc) (r via : Int) (x : Rt) : Bool := dstB l via x.nd && decide (dstM l via x.nd < addS (distM l via r) x.c)
def fromO (l : List Arc) (r : Int) : List Arc := if arcsB none l then fromM l r else []
def spOf (l : List Arc) (r : Int) (x : Rt) (a : Arc) : Option Sp := if a.t = x.via then none else if freeB l r a.t x then some ⟨x.nd, a.t, addS a.c (dstM l a.t x.nd)⟩ else none
def allM (l : List Arc) (r : Int) (x : Rt) : List Sp := (fromO l r).filterMap (spOf l r x)
theorem fromO_len {l : List Arc} {r : Int} : (fromO l r).length ≤ l.length := by
  unfold fromO
  split
  · exact List.length_filter_le _ _
  · simp
theorem filterMap_take {α β : Type} {p : α → Option β} {l : List α} {i : Nat} {a : α} (h : l[i]? = some a) : (l.take (i + 1)).filterMap p = (l.take i).filterMap p ++ (p a).toList := by
  rw [take_step h, List.filterMap_append]
  cases hp : p a <;> simp [hp]
theorem distM_range {l : List Arc} (hll : l.length ≤ 1000000) (a b : Int) : 0 ≤ distM l a b ∧ distM l a b ≤ 18446744073709551615 := by
  have := dst_range hll a b
  unfold distM farI
  split <;> omega
theorem graph_From_s {l : List Arc} {n : Int} (hl : l.length ≤ 1000000 := by omega) : Triple Try.prog 27 [.sl 3 (l.map arcC), .int n] [] (Is (.sl 3 ((if arcsB none l then fromM l n else []).map arcC)) []) := (graph_From (l := l) (n := n) hl).settle
theorem graph_Cut_s {l : List Arc} {n : Int} (hl : l.length ≤ 1000000 := by omega) : Triple Try.prog 28 [.sl 3 (l.map arcC), .int n] [] (Is (.sl 3 ((if arcsB none l then cutM l n else []).map arcC)) []) := (graph_Cut (l := l) (n := n) hl).settle
/- spare.distance -/
set_option maxRecDepth 100000 in
set_option maxHeartbeats 400000 in
theorem spare_distance {l : List Arc} {a b : Int} (hll : l.length ≤ 400000 := by omega) : Triple Try.prog 271 [.sl 3 (l.map arcC), .int a, .int b] [] (Is (.v (.int .u64 (distM l a b))) []) := by
  refine triple_of Try.func271 rfl (by kernel_rfl) rfl (by simp) ?_
  refine aSeq ?_
  refine aReg ?_
  refine sp pMa ?_
  refine oNil ?_
  refine aSeq ?_
  refine aSeq ?_
  refine aReg ?_
  refine sp pM ?_
  refine sp pM ?_
  refine sp pM ?_
  refine sq ?_
  refine ci rfl rfl rfl (spf_Distance (l := l) (a := a) (b := b) (by omega)) ?_
  refine sp pM ?_
  refine sp pX ?_
  refine sp pX ?_
  refine sp pMa ?_
  refine sp pMa ?_
  refine oNil ?_
  refine aSeq ?_
  refine aReg ?_
  refine sp pM ?_
  refine oNil ?_
  refine aCond rfl (fun c16 => ?_) (fun c16 => ?_)
  · skip
    refine aSeq ?_
    refine aReg ?_
    refine sp pM ?_
    refine sp pMa ?_
    refine oNil ?_
    refine aRet ?_
    refine finIs rfl ?_
    have hd : dstB l a b = true := by assumption
    unfold distM
    rw [hd, if_pos rfl]
    rfl
  · skip
    refine aSkip ?_
    refine aSeq ?_
    refine aReg ?_
    refine sq ?_
    refine cv rfl rfl rfl (lents_refl _) cost_Far ?_
    refine sp pMa ?_
    refine oNil ?_
    refine aRet ?_
    refine finIs rfl ?_
    have hd : dstB l a b = false := by assumption
    unfold distM
    rw [hd]
    rfl
/- spare.free -/
def spare_free_r2_T : Bool × List (List Nat × List Nat) := (true, [([], []), ([], []), ([1], [1]), ([2], [2]), ([2], [2]), ([2], [2]), ([2], [2]), ([4, 5, 6, 2, 2], [2, 4, 5, 6]), ([2], [2]), ([8, 2], [2, 8]), ([7, 9, 7, 2], [2, 7, 9]), ([3, 10, 2], [2, 3, 10]), ([2, 11], [2, 11]), ([0, 10, 0], [0]), ([12, 13, 0, 1, 2, 3, 4, 5, 6, 7, 8, 9, 10, 11, 12, 13], [12])])
def spare_free_r2_B : List Nat := [0, 0, 2, 6, 6, 6, 6, 118, 6, 262, 1014, 2046, 4094, 2039, 16383]
theorem spare_free_r2_t : Go.Proofs.YtmcannmjielalaaW.PrintLast.rtab .any (Go.Proofs.YtmcannmjielalaaW.PrintLast.opsOf Try.f232 2) = spare_free_r2_T := by kernel_rfl
theorem spare_free_r2_b : Go.Proofs.YtmcannmjielalaaW.PrintLast.waitsOk spare_free_r2_T.2 spare_free_r2_B = true := by kernel_rfl
set_option maxRecDepth 100000 in
set_option maxHeartbeats 1000000 in
theorem spare_free {l : List Arc} {r via : Int} {x : Rt} (hll : l.length ≤ 400000 := by omega) (hx0 : 0 ≤ x.c) (hx1 : x.c ≤ 69793218560000000) : Triple Try.prog 232 [.sl 3 (l.map arcC), .int r, .int via, .agg (rtC x)] [] (Is (.tup [.v (.int .u64 (dstM l via x.nd)), .v (.bool (freeB l r via x))]) []) := by
  have hdr := distM_range (l := l) (by omega) via r
  refine triple_of Try.func232 rfl (by kernel_rfl) rfl (by simp) ?_
  refine aSeq ?_
  refine aReg ?_
  refine sq ?_
  refine qBox rfl rfl (by decide) rfl rfl (fun b7 => ?_)
  refine sp pMa ?_
  refine sp pMa ?_
  refine oNil ?_
  refine aSeq ?_
  refine aReg ?_
  refine sp pM ?_
  refine sp pM ?_
  refine sp (pFb fd_49_0) ?_
  refine sr (rB1 ty_3) ?_
  refine sq ?_
  refine ci rfl rfl rfl (spf_Distance (l := l) (a := via) (b := x.nd) (by omega)) ?_
  refine sp pM ?_
  refine sp pX ?_
  refine sp pX ?_
  refine sp pMa ?_
  refine sp pMa ?_
  refine oNil ?_
  refine aSeq ?_
  refine aDrawT spare_free_r2_t spare_free_r2_b [] 15 #[false, false, false, false, false, false, false, false, false, false, false, false, false, false, false] (by kernel_rfl) rfl rfl (fun HT => ?_)
  refine dp HT 0 rfl pM ?_
  refine dp HT 1 rfl pM ?_
  refine dp HT 2 rfl pM ?_
  refine dSplit 22 rfl (fun c22 => ?_) (fun c22 => ?_)
  · skip
    refine dpG HT 3 rfl pM ?_
    refine dpG HT 4 rfl pM ?_
    refine dpG HT 5 rfl pM ?_
    refine dpG HT 6 rfl pM ?_
    refine dpG HT 8 rfl (pFb fd_49_2) ?_
    refine drG HT 9 rfl (rB1 ty_37) ?_
    refine dGo ?_
    refine e1G HT 7 rfl ?_
    refine cv rfl rfl rfl (lents_refl _) (spare_distance (l := l) (a := via) (b := r) hll) ?_
    refine e1G HT 10 rfl ?_
    refine cv rfl rfl rfl (lents_refl _) (cost_Add (by omega) (by omega) (by omega) (by omega)) ?_
    refine efG HT 11 rfl pB ?_
    refine ef HT 12 rfl pK ?_
    refine ep HT 13 rfl pMa ?_
    refine ePure (i := 14) #[true, true, true, true, true, true, true, true, true, true, true, true, true, true, true] rfl rfl rfl (HT.any (by kernel_rfl)) (by exact pMa) (by decide) ?_
    refine eE HT ?_
    clear HT
    refine aRet ?_
    refine finIs rfl ?_
    have he : (if distM l via r > 18446744073709551615 - x.c then 18446744073709551615 else distM l via r + x.c) = addS (distM l via r) x.c := rfl
    first
      | (have hd : dstB l via x.nd = true := by assumption
         unfold freeB
         rw [hd, ← he]
         rfl)
      | (have hd : dstB l via x.nd = false := by assumption
         unfold freeB
         rw [hd]
         rfl)
  · skip
    refine dS HT 3 rfl ?_
    refine dS HT 4 rfl ?_
    refine dS HT 5 rfl ?_
    refine dS HT 6 rfl ?_
    refine dS HT 7 rfl ?_
    refine dS HT 8 rfl ?_
    refine dS HT 9 rfl ?_
    refine dGo ?_
    refine eS HT 10 rfl ?_
    refine eS HT 11 rfl ?_
    refine ef HT 12 rfl pK ?_
    refine ep HT 13 rfl pMa ?_
    refine ePure (i := 14) #[true, true, true, true, true, true, true, true, true, true, true, true, true, true, true] rfl rfl rfl (HT.any (by kernel_rfl)) (by exact pMa) (by decide) ?_
    refine eE HT ?_
    clear HT
    refine aRet ?_
    refine finIs rfl ?_
    have he : (if distM l via r > 18446744073709551615 - x.c then 18446744073709551615 else distM l via r + x.c) = addS (distM l via r) x.c := rfl
    first
      | (have hd : dstB l via x.nd = true := by assumption
         unfold freeB
         rw [hd, ← he]
         rfl)
      | (have hd : dstB l via x.nd = false := by assumption
         unfold freeB
         rw [hd]
         rfl)
/- spare.all -/
def spare_all_r8_T : Bool × List (List Nat × List Nat) := (true, [([], []), ([], []), ([1], [1]), ([], []), ([3], [3]), ([], []), ([5], [5]), ([6], [6]), ([], []), ([7, 8], [7, 8]), ([2, 4, 9], [2, 4, 9]), ([10], [10]), ([0, 11, 9], [0, 11]), ([12, 12, 0, 1, 2, 3, 4, 5, 6, 7, 8, 9, 10, 11, 12], [0, 12])])
def spare_all_r8_B : List Nat := [0, 0, 2, 0, 8, 0, 32, 96, 0, 480, 1022, 2046, 4095, 8191]
theorem spare_all_r8_t : Go.Proofs.YtmcannmjielalaaW.PrintLast.rtab .any (Go.Proofs.YtmcannmjielalaaW.PrintLast.opsOf Try.f146 8) = spare_all_r8_T := by kernel_rfl
theorem spare_all_r8_b : Go.Proofs.YtmcannmjielalaaW.PrintLast.waitsOk spare_all_r8_T.2 spare_all_r8_B = true := by kernel_rfl
set_option maxRecDepth 100000 in
set_option maxHeartbeats 2000000 in
theorem spare_all {l : List Arc} {r : Int} {x : Rt} (hll : l.length ≤ 400000 := by omega) (hx0 : 0 ≤ x.c) (hx1 : x.c ≤ 69793218560000000) : Triple Try.prog 146 [.sl 3 (l.map arcC), .int r, .agg (rtC x)] [] (Own 68 3 ((allM l r x).map spC3) []) := by
  refine triple_of Try.func146 rfl (by kernel_rfl) rfl (by simp) ?_
  refine aSeq ?_
  refine aReg ?_
  refine sq ?_
  refine qBox rfl rfl (by decide) rfl rfl (fun b5 => ?_)
  refine sp pMa ?_
  refine oNil ?_
  refine aSeq ?_
  refine aReg ?_
  refine sp pMa ?_
  refine oNil ?_
  refine aSeq ?_
  refine aSeq ?_
  refine aWeak (weak_nil 68 3) ?_
  have hfl := fromO_len (l := l) (r := r)
  refine aReg ?_
  refine sp pM ?_
  refine sp pM ?_
  refine sq ?_
  refine ci rfl rfl rfl (graph_From_s (l := l) (n := r) (by omega)) ?_
  rw [show (if arcsB none l then fromM l r else []) = fromO l r from rfl]
  refine sp (by first | exact pLm sl_22 | exact pLs sl_22 | exact pLv sl_22) ?_
  refine sp pM ?_
  refine oNil ?_
  refine aBlock ?_
  refine loopF (α := Nat × List Sp × Option Nat × Nat) (kept := [(0, _), (1, _), (5, _), (14, _), (15, _)]) (fun (i, out, g, c) => i ≤ (fromO l r).length ∧ out = ((fromO l r).take i).filterMap (spOf l r x)) (fun (i, out, g, c) => [(16, .int i), (7, .v (slV g out.length c))]) (fun (i, out, g, c) => [.sl g c 68 3 (out.map spC3)]) (fun (i, out, g, c) => (fromO l r).length - i) (0, [], _, _) ?_ ⟨gInt rfl (by first | rfl | omega | simp), gLen rfl (by first | rfl | simp | (simp; omega)), rfl, rfl, rfl, rfl, rfl, trivial⟩ (by repeat constructor) ?_
  · skip
    exact ⟨by omega, rfl⟩
  · rintro ⟨i, out, g, c⟩ ⟨hi, ho⟩
    refine aSeq ?_
    refine aReg ?_
    refine sp pB ?_
    refine oNil ?_
    refine aSeq ?_
    refine aCondDec rfl (fun c17 => ?_) (fun c17 => ?_)
    · skip
      refine aSkip ?_
      refine aSeq ?_
      refine aBlock ?_
      refine aSeq ?_
      obtain ⟨a, ha⟩ : ∃ z, (fromO l r)[i]? = some z := ⟨_, List.getElem?_eq_getElem (by omega)⟩
      have hak : AOk a := by
        have hm := List.mem_of_getElem? ha
        unfold fromO at hm
        split at hm
        · rename_i hok; exact arcs_ok hok a (List.mem_filter.1 hm).1
        · simp at hm
      unfold AOk at hak
      have hd1 := dst_range (l := l) (by omega) a.t x.nd
      refine aReg ?_
      first | refine sp (pIx es_22) ?_ | (refine obtSN 14 16 rfl rfl (by omega) (fun x18 hx18 => ?_); refine sp (pIs es_22 hx18) ?_) | (refine obtS 14 16 rfl rfl (by omega) (by omega) (fun x18 hx18 => ?_); refine sp (pIs es_22 hx18) ?_) | refine sp (pIo es_22) ?_
      refine sr (by first | exact rSW ty_36 rfl | exact rSA ty_36 | exact rBWa ty_36 | exact rBW ty_36 | exact rBA ty_36 | exact rArA ty_36 (fun _ => rfl)) ?_
      refine sq ?_
      refine qAlloc rfl rfl (by decide) ze_36 rfl (fun b9 => ?_)
      refine sa ?_
      refine oStW rfl rfl rfl rfl (by repeat constructor) ty_36 ?_
      refine oNil ?_
      refine aSeq ?_
      refine aSeq ?_
      refine aReg ?_
      refine sp (pFb fd_36_1) ?_
      refine sr (rB1 ty_3) ?_
      refine sp (pFb fd_49_1) ?_
      refine sr (rB1 ty_3) ?_
      refine sp pB ?_
      refine oNil ?_
      refine aCondEq rfl (fun c24 => ?_) (fun c24 => ?_)
      · skip
        refine aExit rfl ?_
        refine aReg ?_
        refine sp pAd ?_
        refine sp pM ?_
        refine oNil ?_
        refine ⟨(i + 1, _, _, _), ?_, by (try dsimp only); omega, ⟨gInt rfl (by first | rfl | omega | simp), gLen rfl (by first | rfl | simp | (simp; omega)), rfl, rfl, rfl, rfl, rfl, trivial⟩, _, (by repeat constructor)⟩
        refine ⟨by omega, ?_⟩
        rw [filterMap_take ha, ← ho]
        unfold spOf
        first
          | (rw [if_pos (by assumption)]; simp; done)
          | (rw [if_neg (by assumption), if_neg (by simp_all)]; simp; done)
          | (rw [if_neg (by assumption), if_pos (by assumption)]; rfl)
      · skip
        refine aSkip ?_
        refine aSeq ?_
        refine aReg ?_
        refine sp pM ?_
        refine sp pM ?_
        refine sp (pFb fd_36_1) ?_
        refine sr (rB1 ty_3) ?_
        refine sr (by first | exact rBWa ty_49 | exact rBW ty_49 | exact rBA ty_49) ?_
        refine sq ?_
        refine ci rfl rfl rfl (spare_free (l := l) (r := r) (via := a.t) (x := x) hll hx0 hx1) ?_
        refine sp pM ?_
        refine sp pX ?_
        refine sp pX ?_
        refine sp pMa ?_
        refine sp pMa ?_
        refine oNil ?_
        refine aSeq ?_
        refine aReg ?_
        refine sp pM ?_
        refine oNil ?_
        refine aCond rfl (fun c34 => ?_) (fun c34 => ?_)
        · skip
          have hol : out.length ≤ 400000 := by have := List.length_filterMap_le (spOf l r x) ((fromO l r).take i); rw [List.length_take] at this; rw [ho]; omega
          refine aDrawT spare_all_r8_t spare_all_r8_b [12] 14 #[false, false, false, false, false, false, false, false, false, false, false, false, false, false] (by kernel_rfl) rfl rfl (fun HT => ?_)
          refine dp HT 0 rfl pM ?_
          refine dp HT 1 rfl (pFb fd_49_0) ?_
          refine dr HT 2 rfl (rB1 ty_3) ?_
          refine dp HT 3 rfl (pFb fd_36_1) ?_
          refine dr HT 4 rfl (rB1 ty_3) ?_
          refine dp HT 5 rfl (pFb fd_36_2) ?_
          refine dr HT 6 rfl (rB1 ty_3) ?_
          refine dp HT 7 rfl (by first | exact pCvK ik_3 ik_37 | exact pConv rfl rfl ik_3 ik_37 rfl) ?_
          refine dp HT 8 rfl pM ?_
          refine dGo ?_
          refine e1 HT 9 rfl ?_
          refine cv rfl rfl rfl (lents_refl _) (cost_Add (by omega) (by omega) (by omega) (by omega)) ?_
          refine ef HT 10 rfl (pBuild rfl st_68 ze_68 rfl rfl rfl rfl) ?_
          refine e1 HT 11 rfl ?_
          refine qLit (l := [_]) rfl rfl (by decide) us_65 ty_68 ze_68 rfl (by decide) (by decide) rfl rfl rfl (fun b46 => ?_)
          refine eLast ?_
          refine f1 HT 12 rfl ?_
          refine oAppT ([⟨x.nd, a.t, _⟩] : List Sp) rfl rfl (by repeat constructor) (srcOwn rfl (by repeat constructor) rfl) el_65 sl_65 (fun g47 k47 => ?_)
          refine fp HT 13 rfl pMa ?_
          refine fE HT ?_
          clear HT
          refine aReg ?_
          refine sp pAd ?_
          refine sp pM ?_
          refine oNil ?_
          refine ⟨(i + 1, _, _, _), ?_, by (try dsimp only); omega, ⟨gInt rfl (by first | rfl | omega | simp), gLen rfl (by first | rfl | simp | (simp; omega)), rfl, rfl, rfl, rfl, rfl, trivial⟩, _, (by repeat constructor)⟩
          refine ⟨by omega, ?_⟩
          rw [filterMap_take ha, ← ho]
          unfold spOf
          first
            | (rw [if_pos (by assumption)]; simp; done)
            | (rw [if_neg (by assumption), if_neg (by simp_all)]; simp; done)
            | (rw [if_neg (by assumption), if_pos (by assumption)]; rfl)
        · skip
          refine aSkip ?_
          refine aReg ?_
          refine sp pAd ?_
          refine sp pM ?_
          refine oNil ?_
          refine ⟨(i + 1, _, _, _), ?_, by (try dsimp only); omega, ⟨gInt rfl (by first | rfl | omega | simp), gLen rfl (by first | rfl | simp | (simp; omega)), rfl, rfl, rfl, rfl, rfl, trivial⟩, _, (by repeat constructor)⟩
          refine ⟨by omega, ?_⟩
          rw [filterMap_take ha, ← ho]
          unfold spOf
          first
            | (rw [if_pos (by assumption)]; simp; done)
            | (rw [if_neg (by assumption), if_neg (by simp_all)]; simp; done)
            | (rw [if_neg (by assumption), if_pos (by assumption)]; rfl)
    · skip
      refine aExit rfl ?_
      refine aSeq ?_
      refine aReg ?_
      refine sp pM ?_
      refine sp pMa ?_
      refine oNil ?_
      refine aRet ?_
      refine finOwn rfl ?_
      rw [ho, take_all (by omega)]
      rfl
theorem spare_all_s {l : List Arc} {r : Int} {x : Rt} (hll : l.length ≤ 400000 := by omega) (hx0 : 0 ≤ x.c) (hx1 : x.c ≤ 69793218560000000) : Triple Try.prog 146 [.sl 3 (l.map arcC), .int r, .agg (rtC x)] [] (Is (.sl 3 ((allM l r x).map spC3)) []) := (spare_all (l := l) (r := r) (x := x) hll hx0 hx1).settle
def forM (l : List Arc) (r n : Int) : List Sp := match findR (rtsM l r) n with | some x => allM l r x | none => []
theorem rts_c {l : List Arc} (hll : l.length ≤ 1000000) {r : Int} {x : Rt} (h : x ∈ rtsM l r) : 0 ≤ x.c ∧ x.c ≤ 69793218560000000 := by
  obtain ⟨hok, _, _, h3⟩ := rtsM_mem h
  have := dF_range (arcs_ok hok) hll r x.nd
  rw [h3]
  exact this
/- spare.For -/
set_option maxRecDepth 100000 in
set_option maxHeartbeats 1000000 in
theorem spare_For {l : List Arc} {r n : Int} (hll : l.length ≤ 400000 := by omega) : Triple Try.prog 61 [.sl 3 (l.map arcC), .int r, .int n] [] (Is (.sl 3 ((forM l r n).map spC3)) []) := by
  refine triple_of Try.func61 rfl (by kernel_rfl) rfl (by simp) ?_
  refine aSeq ?_
  refine aReg ?_
  refine sp pMa ?_
  refine oNil ?_
  refine aSeq ?_
  refine aSeq ?_
  refine aReg ?_
  refine sp pM ?_
  refine sp pM ?_
  refine sq ?_
  refine ci rfl rfl rfl (spf_Routes_s (l := l) (r := r) hll) ?_
  refine sp (by first | exact pLm sl_41 | exact pLs sl_41 | exact pLv sl_41) ?_
  refine sp pM ?_
  refine oNil ?_
  refine aBlock ?_
  refine loopF (α := Nat) (kept := [(0, _), (1, _), (2, _), (11, _), (12, _)]) (fun i => i ≤ (rtsM l r).length ∧ ∀ y ∈ (rtsM l r).take i, (y.nd == n) = false) (fun i => [(13, .int i)]) (fun i => []) (fun i => (rtsM l r).length - i) 0 ?_ ⟨gInt rfl (by first | rfl | omega | simp), rfl, rfl, rfl, rfl, rfl, trivial⟩ (by repeat constructor) ?_
  · skip
    exact ⟨by omega, fun y hy => by simp at hy⟩
  · rintro i ⟨hi, hv⟩
    refine aSeq ?_
    have hrl := rtsM_len l r
    refine aReg ?_
    refine sp pB ?_
    refine oNil ?_
    refine aSeq ?_
    refine aCondDec rfl (fun c14 => ?_) (fun c14 => ?_)
    · skip
      refine aSkip ?_
      refine aSeq ?_
      refine aBlock ?_
      refine aSeq ?_
      obtain ⟨x, hx⟩ : ∃ z, (rtsM l r)[i]? = some z := ⟨_, List.getElem?_eq_getElem (by omega)⟩
      have hxc := rts_c (by omega) (List.mem_of_getElem? hx)
      refine aReg ?_
      first | refine sp (pIx es_41) ?_ | (refine obtSN 11 13 rfl rfl (by omega) (fun x15 hx15 => ?_); refine sp (pIs es_41 hx15) ?_) | (refine obtS 11 13 rfl rfl (by omega) (by omega) (fun x15 hx15 => ?_); refine sp (pIs es_41 hx15) ?_) | refine sp (pIo es_41) ?_
      refine sr (by first | exact rSW ty_49 rfl | exact rSA ty_49 | exact rBWa ty_49 | exact rBW ty_49 | exact rBA ty_49 | exact rArA ty_49 (fun _ => rfl)) ?_
      refine sq ?_
      refine qAlloc rfl rfl (by decide) ze_49 rfl (fun b8 => ?_)
      refine sa ?_
      refine oStW rfl rfl rfl rfl (by repeat constructor) ty_49 ?_
      refine oNil ?_
      refine aSeq ?_
      refine aReg ?_
      refine sp (pFb fd_49_0) ?_
      refine sr (rB1 ty_3) ?_
      refine sp pM ?_
      refine sp pB ?_
      refine oNil ?_
      refine aCondEq rfl (fun c20 => ?_) (fun c20 => ?_)
      · skip
        refine aSeq ?_
        refine aReg ?_
        refine sp pM ?_
        refine sp pM ?_
        refine sr (by first | exact rBWa ty_49 | exact rBW ty_49 | exact rBA ty_49) ?_
        refine sq ?_
        refine ci rfl rfl rfl (spare_all_s (l := l) (r := r) (x := x) hll hxc.1 hxc.2) ?_
        refine sp pMa ?_
        refine oNil ?_
        refine aRet ?_
        refine finIs rfl ?_
        have hf : findR (rtsM l r) n = some x := (idxF_at (p := fun y : Rt => y.nd == n) hv hx (by simp_all)).2
        unfold forM
        rw [hf]
        rfl
      · skip
        refine aSkip ?_
        refine aReg ?_
        refine sp pAd ?_
        refine sp pM ?_
        refine oNil ?_
        refine ⟨i + 1, ?_, by (try dsimp only); omega, ⟨gInt rfl (by first | rfl | omega | simp), rfl, rfl, rfl, rfl, rfl, trivial⟩, _, (by repeat constructor)⟩
        refine ⟨by omega, fun y hy => ?_⟩
        rw [take_step hx] at hy
        rcases List.mem_append.1 hy with hy | hy
        · exact hv y hy
        · rw [List.mem_singleton.1 hy]; simp_all
    · skip
      refine aExit rfl ?_
      refine aSeq ?_
      refine aWeak (weak_nil 68 3) ?_
      refine aReg ?_
      refine sp pMa ?_
      refine oNil ?_
      refine aWeak (weak_settle (k := 6) rfl .hd rfl) ?_
      refine aRet ?_
      refine finIs rfl ?_
      rw [take_all (by omega)] at hv
      have hf : findR (rtsM l r) n = none := (idxF_no (p := fun y : Rt => y.nd == n) hv).2
      unfold forM
      rw [hf]
      rfl
end A
end Go.Proofs.Ytmcannmjielalaa
set_option linter.unusedVariables false
set_option linter.unusedSimpArgs false
namespace Go.Proofs.Ytmcannmjielalaa
namespace A
theorem eq_68 : eqType Try.prog 68 = some [(0, .i), (1, .i), (2, .i)] := by kernel_rfl
theorem es_65 : elemSize Try.prog 65 = some 3 := by kernel_rfl
theorem fd_68_1 : fieldOf Try.prog 68 1 = some (1, 1, false) := by kernel_rfl
theorem fd_68_2 : fieldOf Try.prog 68 2 = some (2, 1, false) := by kernel_rfl
/-! ### Walks that leave a node out -/
theorem mem_cut {l : List Arc} {x : Int} {a : Arc} : a ∈ cutM l x ↔ a ∈ l ∧ a.f ≠ x ∧ a.t ≠ x := by
  unfold cutM
  rw [List.mem_filter]
  simp
theorem Wk.mono {l m : List Arc} (h : ∀ a ∈ l, a ∈ m) {r v c : Int} (k : Wk l r v c) : Wk m r v c := by
  induction k with
  | refl => exact .refl
  | step _ ha hu ih => exact .step ih (h _ ha) hu
theorem Wk.cut {l : List Arc} {x r v c : Int} (k : Wk l r v c) (hr : r ≠ x) : (v ≠ x ∧ Wk (cutM l x) r v c) ∨ ∃ c1 c2, Wk l r x c1 ∧ Wk l x v c2 ∧ c1 + c2 = c := by
  induction k with
  | refl => exact .inl ⟨hr, .refl⟩
  | @step u e a hu ha hf ih =>
    rcases ih with ⟨h1, h2⟩ | ⟨c1, c2, h1, h2, h3⟩
    · by_cases ht : a.t = x
      · right
        refine ⟨e + a.c, 0, ?_, ?_, by omega⟩
        · rw [← ht]; exact .step hu ha hf
        · rw [ht]; exact .refl
      · exact .inl ⟨ht, .step h2 (mem_cut.2 ⟨ha, by rw [hf]; exact h1, ht⟩) hf⟩
    · exact .inr ⟨c1, c2 + a.c, h1, .step h2 ha hf, by omega⟩
theorem arcs_filter {l : List Arc} {p : Arc → Bool} (h : arcsB none l = true) : arcsB none (l.filter p) = true :=
  arcsB_of (fun e he => arcsB_all h e (List.mem_filter.1 he).1) (fun q hq => by cases hq) ((arcsB_sorted h).sublist List.filter_sublist)
/-- A spare reaches the node without the root, at the same distance. -/
theorem spare_ok {l : List Arc} (hll : l.length ≤ 1000000) {r n : Int} {s : Sp} (h : s ∈ forM l r n) : arcsB none l = true → dstB l s.via n = true ∧ dstB (cutM l r) s.via n = true ∧ dstM (cutM l r) s.via n = dstM l s.via n := fun hok => by
  unfold forM at h
  cases hf : findR (rtsM l r) n with
  | none => rw [hf] at h; simp at h
  | some x =>
    rw [hf] at h
    obtain ⟨hx, hxn⟩ := findR_some hf
    obtain ⟨_, hx1, hx2, hx3⟩ := rtsM_mem hx
    unfold allM at h
    simp only [List.mem_filterMap] at h
    obtain ⟨a, ha, hs⟩ := h
    unfold spOf at hs
    split at hs
    · cases hs
    · split at hs
      · rename_i hfr
        cases hs
        unfold freeB at hfr
        rw [Bool.and_eq_true, decide_eq_true_eq] at hfr
        obtain ⟨hb, hlt⟩ := hfr
        rw [hxn] at hb hlt hx2
        have hoks := arcs_ok hok
        have hokc := arcs_ok (arcs_filter (p := fun a => a.f != r && a.t != r) hok)
        have hal : a ∈ l := by unfold fromO at ha; rw [if_pos hok] at ha; exact (List.mem_filter.1 ha).1
        have haf : a.f = r := by unfold fromO at ha; rw [if_pos hok] at ha; simpa using (List.mem_filter.1 ha).2
        have hak := hoks a hal
        unfold AOk at hak
        have hi : isF l a.t n = true := by unfold dstB at hb; rw [Bool.and_eq_true] at hb; exact hb.2
        have hd : dstM l a.t n = dF l a.t n := by unfold dstM; rw [hb, if_pos rfl]
        refine ⟨hb, ?_⟩
        show dstB (cutM l r) a.t n = true ∧ dstM (cutM l r) a.t n = dstM l a.t n
        rcases (isF_wk hoks hi).cut (x := r) (by omega) with ⟨_, hw⟩ | ⟨c1, c2, hw1, hw2, hw3⟩
        · have h1 := wk_isF (l := cutM l r) hokc (.inl ⟨by omega, by omega⟩) hw
          have h2 := wk_isF hoks (.inl ⟨by omega, by omega⟩) ((isF_wk (l := cutM l r) hokc h1.1).mono (fun b hb => (mem_cut.1 hb).1))
          have hcb : dstB (cutM l r) a.t n = true := by unfold dstB; rw [arcs_filter (p := fun a => a.f != r && a.t != r) hok |> (show arcsB none (cutM l r) = true from ·), h1.1]; rfl
          refine ⟨hcb, ?_⟩
          rw [hd]
          unfold dstM
          rw [hcb, if_pos rfl]
          omega
        · exfalso
          have h1 := wk_isF hoks (.inl ⟨by omega, by omega⟩) hw1
          have h2 := wk_isF hoks (.inl ⟨by omega, by omega⟩) hw2
          have hbr : dstB l a.t r = true := by unfold dstB; rw [hok, h1.1]; rfl
          have hdr : distM l a.t r = dF l a.t r := by unfold distM dstM; rw [hbr, if_pos rfl, if_pos rfl]
          have hxc : x.c = dF l r n := by rw [hx3, hxn]
          have r1 := dF_range hoks hll a.t r
          have r2 := dF_range hoks hll r n
          rw [hdr, hxc, add_far (by omega), hd] at hlt
          omega
      · cases hs
/-! ### The best of each -/
def leastM (b : Sp) (l : List Sp) : Sp := l.foldl (fun b s => if s.d < b.d then s else b) b
def bestOf (l : List Arc) (r : Int) (x : Rt) : Option Sp := match allM l r x with | [] => none | s :: t => some (leastM s t)
def bestM (l : List Arc) (r : Int) : List Sp := (rtsM l r).filterMap (bestOf l r)
def triL : List Arc := [⟨1, 2, 1⟩, ⟨1, 3, 1⟩, ⟨2, 1, 1⟩, ⟨2, 3, 1⟩, ⟨3, 1, 1⟩, ⟨3, 2, 1⟩]
theorem triL_for : forM triL 1 2 = [⟨2, 3, 2⟩] := by decide +kernel
theorem triL_best : (bestM triL 1).length = 2 := by decide +kernel
theorem triL_rts : (rtsM triL 1).length = 2 := by decide +kernel
def triR (n m : Nat) : List Arc := ((List.range m).filter fun j => decide (n ≠ j)).map fun j => ⟨((n + 1 : Nat) : Int), ((j + 1 : Nat) : Int), 1⟩
def triN (n : Nat) : List Arc := (List.range n).flatMap fun i => triR i 3
theorem triR_step (n m : Nat) : triR n (m + 1) = triR n m ++ if n = m then [] else [⟨((n + 1 : Nat) : Int), ((m + 1 : Nat) : Int), 1⟩] := by
  unfold triR
  rw [List.range_succ, List.filter_append, List.map_append]
  congr 1
  by_cases e : n = m <;> simp [e]
theorem triN_step (n : Nat) : triN (n + 1) = triN n ++ triR n 3 := by
  unfold triN
  rw [List.range_succ, List.flatMap_append]
  simp
theorem triN_3 : triN 3 = triL := by decide
theorem tri_len (n m : Nat) (h1 : n ≤ 3) (h2 : m ≤ 3) : (triN n ++ triR n m).length ≤ 20 := by
  have : ∀ n, n < 4 → ∀ m, m < 4 → (triN n ++ triR n m).length ≤ 20 := by decide
  exact this n (by omega) m (by omega)
/- spare.least -/
set_option maxRecDepth 100000 in
set_option maxHeartbeats 1000000 in
theorem spare_least {b : Sp} {l : List Sp} (hl : l.length ≤ 1000000) : Triple Try.prog 270 [.sl 3 ((b :: l).map spC3)] [] (Is (.agg (spC3 (leastM b l))) []) := by
  refine triple_ofR Try.func270 rfl (by kernel_rfl) rfl (by simp) ?_
  refine aSeq ?_
  refine aReg ?_
  refine sq ?_
  refine qAlloc rfl rfl (by decide) ze_68 rfl (fun b2 => ?_)
  refine oNil ?_
  refine aSeq ?_
  have hb0 : (b :: l)[(0 : Int).toNat]? = some b := rfl
  refine aReg ?_
  refine sp pM ?_
  first | refine sp (pIx es_65) ?_ | refine sp (pIo es_65) ?_
  refine sr (by first | exact rSW ty_68 rfl | exact rSA ty_68) ?_
  refine sq ?_
  refine qAlloc rfl rfl (by decide) ze_68 rfl (fun b3 => ?_)
  refine sa ?_
  refine oStW rfl rfl rfl rfl (by repeat constructor) ty_68 ?_
  refine oNil ?_
  refine aSeq ?_
  refine aSeq ?_
  refine aReg ?_
  refine sp pM ?_
  refine sp (pSlice rfl rfl es_65 (bdI (n := 1) rfl) (bdN rfl) (by simp) (by simp)) ?_
  rw [show ((((b :: l).map spC3).drop 1).take (((b :: l).map spC3).length - 1)) = l.map spC3 by simp; rw [List.take_of_length_le (by simp)]]
  refine sp (by first | exact pLm sl_65 | exact pLs sl_65 | exact pLv sl_65) ?_
  refine sp pM ?_
  refine oNil ?_
  refine aBlock ?_
  refine loopF (α := Nat × Sp) (kept := [(2, _), (3, _), (10, _), (11, _)]) (fun (i, q) => i ≤ l.length ∧ q = leastM b (l.take i)) (fun (i, q) => [(12, .int i)]) (fun (i, q) => [.box b3 (spC3 q)]) (fun (i, q) => l.length - i) (0, b) ?_ ⟨gInt rfl (by first | rfl | omega | simp), rfl, rfl, rfl, rfl, trivial⟩ (by repeat constructor) ?_
  · skip
    exact ⟨by omega, rfl⟩
  · rintro ⟨i, q⟩ ⟨hi, hq⟩
    refine aSeq ?_
    refine aReg ?_
    refine sp pB ?_
    refine oNil ?_
    refine aSeq ?_
    refine aCondDec rfl (fun c13 => ?_) (fun c13 => ?_)
    · skip
      refine aSkip ?_
      refine aSeq ?_
      refine aBlock ?_
      refine aSeq ?_
      obtain ⟨s, hs⟩ : ∃ z, l[i]? = some z := ⟨_, List.getElem?_eq_getElem (by omega)⟩
      refine aReg ?_
      first | refine sp (pIx es_65) ?_ | (refine obtSN 10 12 rfl rfl (by omega) (fun x14 hx14 => ?_); refine sp (pIs es_65 hx14) ?_) | (refine obtS 10 12 rfl rfl (by omega) (by omega) (fun x14 hx14 => ?_); refine sp (pIs es_65 hx14) ?_) | refine sp (pIo es_65) ?_
      refine sr (by first | exact rSW ty_68 rfl | exact rSA ty_68 | exact rBWa ty_68 | exact rBW ty_68 | exact rBA ty_68 | exact rArA ty_68 (fun _ => rfl)) ?_
      refine sq ?_
      refine qAlloc rfl rfl (by decide) ze_68 rfl (fun b5 => ?_)
      refine sa ?_
      refine oStW rfl rfl rfl rfl (by repeat constructor) ty_68 ?_
      refine oNil ?_
      refine aSeq ?_
      refine aReg ?_
      refine sp (pFb fd_68_2) ?_
      refine sr (rB1 ty_37) ?_
      refine sp (pFb fd_68_2) ?_
      refine sr (rB1 ty_37) ?_
      refine sp pB ?_
      refine oNil ?_
      refine aCondDec rfl (fun c20 => ?_) (fun c20 => ?_)
      · skip
        refine aReg ?_
        refine sr (by first | exact rBWa ty_68 | exact rBW ty_68 | exact rBA ty_68) ?_
        refine sa ?_
        refine oStW rfl rfl rfl rfl (by repeat constructor) ty_68 ?_
        refine oNil ?_
        refine aReg ?_
        refine sp pAd ?_
        refine sp pM ?_
        refine oNil ?_
        refine ⟨(i + 1, _), ?_, by (try dsimp only); omega, ⟨gInt rfl (by first | rfl | omega | simp), rfl, rfl, rfl, rfl, trivial⟩, _, (by repeat constructor)⟩
        refine ⟨by omega, ?_⟩
        unfold leastM at hq ⊢
        rw [take_step hs, List.foldl_append, ← hq]
        first
          | (show _ = if s.d < q.d then s else q; rw [if_pos (by assumption)]; done)
          | (show _ = if s.d < q.d then s else q; rw [if_neg (by assumption)]; done)
      · skip
        refine aSkip ?_
        refine aReg ?_
        refine sp pAd ?_
        refine sp pM ?_
        refine oNil ?_
        refine ⟨(i + 1, _), ?_, by (try dsimp only); omega, ⟨gInt rfl (by first | rfl | omega | simp), rfl, rfl, rfl, rfl, trivial⟩, _, (by repeat constructor)⟩
        refine ⟨by omega, ?_⟩
        unfold leastM at hq ⊢
        rw [take_step hs, List.foldl_append, ← hq]
        first
          | (show _ = if s.d < q.d then s else q; rw [if_pos (by assumption)]; done)
          | (show _ = if s.d < q.d then s else q; rw [if_neg (by assumption)]; done)
    · skip
      refine aExit rfl ?_
      refine aSeq ?_
      refine aReg ?_
      refine sr (by first | exact rBWa ty_68 | exact rBW ty_68 | exact rBA ty_68) ?_
      refine sa ?_
      refine oStW rfl rfl rfl rfl (by repeat constructor) ty_68 ?_
      refine oNil ?_
      refine aRet ?_
      refine finRIs (l := [.agg (spC3 q)]) (.cons (.cellA rfl (by repeat (first | exact List.mem_cons_self | apply List.mem_cons_of_mem)) ty_68) .nil) ?_
      rw [hq, take_all (by omega)]
      rfl
/- spare.Best -/
set_option maxRecDepth 100000 in
set_option maxHeartbeats 1000000 in
theorem spare_Best {l : List Arc} {r : Int} (hll : l.length ≤ 400000 := by omega) : Triple Try.prog 231 [.sl 3 (l.map arcC), .int r] [] (Own 68 3 ((bestM l r).map spC3) []) := by
  refine triple_of Try.func231 rfl (by kernel_rfl) rfl (by simp) ?_
  refine aSeq ?_
  refine aReg ?_
  refine sp pMa ?_
  refine oNil ?_
  refine aSeq ?_
  refine aReg ?_
  refine sp pMa ?_
  refine oNil ?_
  refine aSeq ?_
  refine aSeq ?_
  refine aWeak (weak_nil 68 3) ?_
  have hrl := rtsM_len l r
  refine aReg ?_
  refine sp pM ?_
  refine sp pM ?_
  refine sq ?_
  refine ci rfl rfl rfl (spf_Routes_s (l := l) (r := r) hll) ?_
  refine sp (by first | exact pLm sl_41 | exact pLs sl_41 | exact pLv sl_41) ?_
  refine sp pM ?_
  refine oNil ?_
  refine aBlock ?_
  refine loopF (α := Nat × List Sp × Option Nat × Nat) (kept := [(0, _), (1, _), (11, _), (12, _)]) (fun (i, out, g, c) => i ≤ (rtsM l r).length ∧ out = ((rtsM l r).take i).filterMap (bestOf l r)) (fun (i, out, g, c) => [(13, .int i), (5, .v (slV g out.length c))]) (fun (i, out, g, c) => [.sl g c 68 3 (out.map spC3)]) (fun (i, out, g, c) => (rtsM l r).length - i) (0, [], _, _) ?_ ⟨gInt rfl (by first | rfl | omega | simp), gLen rfl (by first | rfl | simp | (simp; omega)), rfl, rfl, rfl, rfl, trivial⟩ (by repeat constructor) ?_
  · skip
    exact ⟨by omega, rfl⟩
  · rintro ⟨i, out, g, c⟩ ⟨hi, ho⟩
    refine aSeq ?_
    refine aReg ?_
    refine sp pB ?_
    refine oNil ?_
    refine aSeq ?_
    refine aCondDec rfl (fun c14 => ?_) (fun c14 => ?_)
    · skip
      refine aSkip ?_
      refine aSeq ?_
      refine aBlock ?_
      refine aSeq ?_
      obtain ⟨x, hx⟩ : ∃ z, (rtsM l r)[i]? = some z := ⟨_, List.getElem?_eq_getElem (by omega)⟩
      have hxc := rts_c (by omega) (List.mem_of_getElem? hx)
      have haln : (allM l r x).length ≤ 400000 := by have := List.length_filterMap_le (spOf l r x) (fromO l r); have := fromO_len (l := l) (r := r); unfold allM; omega
      refine aReg ?_
      first | refine sp (pIx es_41) ?_ | (refine obtSN 11 13 rfl rfl (by omega) (fun x15 hx15 => ?_); refine sp (pIs es_41 hx15) ?_) | (refine obtS 11 13 rfl rfl (by omega) (by omega) (fun x15 hx15 => ?_); refine sp (pIs es_41 hx15) ?_) | refine sp (pIo es_41) ?_
      refine sr (by first | exact rSW ty_49 rfl | exact rSA ty_49 | exact rBWa ty_49 | exact rBW ty_49 | exact rBA ty_49 | exact rArA ty_49 (fun _ => rfl)) ?_
      refine sq ?_
      refine qAlloc rfl rfl (by decide) ze_49 rfl (fun b7 => ?_)
      refine sa ?_
      refine oStW rfl rfl rfl rfl (by repeat constructor) ty_49 ?_
      refine oNil ?_
      refine aSeq ?_
      refine aReg ?_
      refine sp pM ?_
      refine sp pM ?_
      refine sr (by first | exact rBWa ty_49 | exact rBW ty_49 | exact rBA ty_49) ?_
      refine sq ?_
      refine ci rfl rfl rfl (spare_all_s (l := l) (r := r) (x := x) hll hxc.1 hxc.2) ?_
      refine sp pMa ?_
      refine oNil ?_
      refine aSeq ?_
      refine aReg ?_
      refine sp pM ?_
      refine sp (by first | exact pLm sl_65 | exact pLs sl_65 | exact pLv sl_65) ?_
      refine sp pB ?_
      refine oNil ?_
      refine aCondDec rfl (fun c23 => ?_) (fun c23 => ?_)
      · skip
        obtain ⟨s0, tt, he⟩ : ∃ s0 tt, allM l r x = s0 :: tt := by
          cases h : allM l r x with
          | nil => rw [h] at c23; simp at c23
          | cons s0 tt => exact ⟨s0, tt, rfl⟩
        rw [he]
        have hol : out.length ≤ 400000 := by have := List.length_filterMap_le (bestOf l r) ((rtsM l r).take i); rw [List.length_take] at this; rw [ho]; omega
        refine aReg ?_
        refine sp pM ?_
        refine sp pM ?_
        refine sq ?_
        refine ci rfl rfl rfl (spare_least (b := s0) (l := tt) (by have := congrArg List.length he; simp at this; omega)) ?_
        refine sq ?_
        refine qLit (l := [_]) rfl rfl (by decide) us_65 ty_68 ze_68 rfl (by decide) (by decide) rfl rfl rfl (fun b27 => ?_)
        refine sa ?_
        refine oAppT ([leastM s0 tt] : List Sp) rfl rfl (by repeat constructor) (srcOwn rfl (by repeat constructor) rfl) el_65 sl_65 (fun g28 k28 => ?_)
        refine sp pMa ?_
        refine oNil ?_
        refine aReg ?_
        refine sp pAd ?_
        refine sp pM ?_
        refine oNil ?_
        refine ⟨(i + 1, _, _, _), ?_, by (try dsimp only); omega, ⟨gInt rfl (by first | rfl | omega | simp), gLen rfl (by first | rfl | simp | (simp; omega)), rfl, rfl, rfl, rfl, trivial⟩, _, (by repeat constructor)⟩
        refine ⟨by omega, ?_⟩
        rw [filterMap_take hx, ← ho]
        first
          | (have hb : bestOf l r x = some (leastM s0 tt) := by unfold bestOf; rw [he]
             rw [hb]
             rfl)
          | (have h0 : allM l r x = [] := List.eq_nil_of_length_eq_zero (by omega)
             have hb : bestOf l r x = none := by unfold bestOf; rw [h0]
             rw [hb]
             simp)
      · skip
        refine aSkip ?_
        refine aReg ?_
        refine sp pAd ?_
        refine sp pM ?_
        refine oNil ?_
        refine ⟨(i + 1, _, _, _), ?_, by (try dsimp only); omega, ⟨gInt rfl (by first | rfl | omega | simp), gLen rfl (by first | rfl | simp | (simp; omega)), rfl, rfl, rfl, rfl, trivial⟩, _, (by repeat constructor)⟩
        refine ⟨by omega, ?_⟩
        rw [filterMap_take hx, ← ho]
        first
          | (have hb : bestOf l r x = some (leastM s0 tt) := by unfold bestOf; rw [he]
             rw [hb]
             rfl)
          | (have h0 : allM l r x = [] := List.eq_nil_of_length_eq_zero (by omega)
             have hb : bestOf l r x = none := by unfold bestOf; rw [h0]
             rw [hb]
             simp)
    · skip
      refine aExit rfl ?_
      refine aSeq ?_
      refine aReg ?_
      refine sp pM ?_
      refine sp pMa ?_
      refine oNil ?_
      refine aRet ?_
      refine finOwn rfl ?_
      rw [ho, take_all (by omega)]
      rfl
theorem spare_Best_s {l : List Arc} {r : Int} (hll : l.length ≤ 400000 := by omega) : Triple Try.prog 231 [.sl 3 (l.map arcC), .int r] [] (Is (.sl 3 ((bestM l r).map spC3)) []) := (spare_Best (l := l) (r := r) hll).settle
/- spare.Covered -/
set_option maxRecDepth 100000 in
set_option maxHeartbeats 400000 in
theorem spare_Covered {l : List Arc} {r : Int} (hll : l.length ≤ 400000 := by omega) : Triple Try.prog 145 [.sl 3 (l.map arcC), .int r] [] (Is (.tup [.int (bestM l r).length, .int (rtsM l r).length]) []) := by
  refine triple_of Try.func145 rfl (by kernel_rfl) rfl (by simp) ?_
  refine aSeq ?_
  refine aReg ?_
  refine sp pMa ?_
  refine sp pMa ?_
  refine oNil ?_
  refine aSeq ?_
  refine aReg ?_
  refine sp pM ?_
  refine sp pM ?_
  refine sq ?_
  refine ci rfl rfl rfl (spare_Best_s (l := l) (r := r) hll) ?_
  refine sp (by first | exact pLm sl_65 | exact pLs sl_65 | exact pLv sl_65) ?_
  refine sp pM ?_
  refine sp pM ?_
  refine sq ?_
  refine ci rfl rfl rfl (spf_Routes_s (l := l) (r := r) hll) ?_
  refine sp (by first | exact pLm sl_41 | exact pLs sl_41 | exact pLv sl_41) ?_
  refine sp pMa ?_
  refine sp pMa ?_
  refine oNil ?_
  refine aRet ?_
  refine finIs rfl ?_
  simp [retOf]
/- waymarklaw37.triangle -/
set_option maxRecDepth 100000 in
set_option maxHeartbeats 1000000 in
theorem law37_triangle  : Triple Try.prog 144 [] [] (Own 36 3 (triL.map arcC) []) := by
  refine triple_of Try.func144 rfl (by kernel_rfl) rfl (by simp) ?_
  refine aSeq ?_
  refine aReg ?_
  refine sp pMa ?_
  refine oNil ?_
  refine aSeq ?_
  refine aReg ?_
  refine sq ?_
  refine qLit (l := []) rfl rfl (by decide) us_22 ty_36 ze_36 rfl (by decide) (by decide) rfl rfl rfl (fun b4 => ?_)
  refine sp pMa ?_
  refine oNil ?_
  refine aSeq ?_
  refine aSeq ?_
  refine aReg ?_
  refine sp pMa ?_
  refine oNil ?_
  refine aBlock ?_
  refine loopF (α := Nat × Option Nat × Nat) (kept := []) (fun (n, g, c) => n ≤ 3) (fun (n, g, c) => [(2, .int ((n + 1 : Nat) : Int)), (1, .v (slV g (triN n).length c))]) (fun (n, g, c) => [.sl g c 36 3 ((triN n).map arcC)]) (fun (n, g, c) => 3 - n) (0, _, _) ?_ ⟨gInt rfl (by first | rfl | omega | simp), gLen rfl (by first | rfl | simp | (simp; omega)), trivial⟩ (by repeat constructor) ?_
  · skip
    omega
  · rintro ⟨n, g, c⟩ hn
    refine aSeq ?_
    refine aSeq ?_
    refine aReg ?_
    refine sp pM ?_
    refine sp pB ?_
    refine oNil ?_
    refine aCondDec rfl (fun c6 => ?_) (fun c6 => ?_)
    · skip
      refine aSkip ?_
      refine aSeq ?_
      refine aBlock ?_
      refine aSeq ?_
      refine aReg ?_
      refine sp pMa ?_
      refine oNil ?_
      refine aBlock ?_
      dsimp only
      rw [show triN n = triN n ++ triR n 0 from (List.append_nil _).symm]
      refine loopF (α := Nat × Option Nat × Nat) (kept := [(2, _)]) (fun (m, g, c) => m ≤ 3) (fun (m, g, c) => [(3, .int ((m + 1 : Nat) : Int)), (1, .v (slV g (triN n ++ triR n m).length c))]) (fun (m, g, c) => [.sl g c 36 3 ((triN n ++ triR n m).map arcC)]) (fun (m, g, c) => 3 - m) (0, _, _) ?_ ⟨gInt rfl (by first | rfl | omega | simp), gLen rfl (by first | rfl | simp | (simp; omega)), rfl, trivial⟩ (by repeat constructor) ?_
      · skip
        omega
      · rintro ⟨m, g, c⟩ hm
        refine aSeq ?_
        refine aSeq ?_
        refine aReg ?_
        refine sp pM ?_
        refine sp pB ?_
        refine oNil ?_
        refine aCondDec rfl (fun c10 => ?_) (fun c10 => ?_)
        · skip
          refine aSkip ?_
          refine aSeq ?_
          refine aBlock ?_
          refine aSeq ?_
          refine aReg ?_
          refine sp pM ?_
          refine sp pM ?_
          refine sp pB ?_
          refine oNil ?_
          refine aCondNe rfl (fun c15 => ?_) (fun c15 => ?_)
          · skip
            refine aReg ?_
            refine sp pM ?_
            refine sp pM ?_
            refine sp pM ?_
            refine sp (pBuild rfl st_36 ze_36 rfl rfl rfl rfl) ?_
            refine sq ?_
            refine qLit (l := [_]) rfl rfl (by decide) us_22 ty_36 ze_36 rfl (by decide) (by decide) rfl rfl rfl (fun b20 => ?_)
            have htl := tri_len n m (by omega) (by omega)
            refine sa ?_
            refine oAppT ([⟨((n + 1 : Nat) : Int), ((m + 1 : Nat) : Int), 1⟩] : List Arc) rfl rfl (by repeat constructor) (srcOwn rfl (by repeat constructor) rfl) el_22 sl_22 (fun g21 k21 => ?_)
            refine sp pMa ?_
            refine oNil ?_
            refine aReg ?_
            refine sp pM ?_
            refine sp pAd ?_
            refine sp pMa ?_
            refine oNil ?_
            dsimp only
            first
              | (have hnm : n ≠ m := by omega
                 rw [List.append_assoc, show triR n m ++ [⟨((n + 1 : Nat) : Int), ((m + 1 : Nat) : Int), 1⟩] = triR n (m + 1) by rw [triR_step, if_neg hnm]]
                 exact ⟨(m + 1, _, _), by show m + 1 ≤ 3; omega, by (try dsimp only); omega, ⟨gInt rfl (by first | rfl | omega | simp), rfl, rfl, trivial⟩, _, (by repeat constructor)⟩)
              | (have hnm : n = m := by omega
                 rw [show triR n m = triR n (m + 1) by rw [triR_step, if_pos hnm, List.append_nil]]
                 exact ⟨(m + 1, _, _), by show m + 1 ≤ 3; omega, by (try dsimp only); omega, ⟨gInt rfl (by first | rfl | omega | simp), rfl, rfl, trivial⟩, _, (by repeat constructor)⟩)
          · skip
            refine aSkip ?_
            refine aReg ?_
            refine sp pM ?_
            refine sp pAd ?_
            refine sp pMa ?_
            refine oNil ?_
            dsimp only
            first
              | (have hnm : n ≠ m := by omega
                 rw [List.append_assoc, show triR n m ++ [⟨((n + 1 : Nat) : Int), ((m + 1 : Nat) : Int), 1⟩] = triR n (m + 1) by rw [triR_step, if_neg hnm]]
                 exact ⟨(m + 1, _, _), by show m + 1 ≤ 3; omega, by (try dsimp only); omega, ⟨gInt rfl (by first | rfl | omega | simp), rfl, rfl, trivial⟩, _, (by repeat constructor)⟩)
              | (have hnm : n = m := by omega
                 rw [show triR n m = triR n (m + 1) by rw [triR_step, if_pos hnm, List.append_nil]]
                 exact ⟨(m + 1, _, _), by show m + 1 ≤ 3; omega, by (try dsimp only); omega, ⟨gInt rfl (by first | rfl | omega | simp), rfl, rfl, trivial⟩, _, (by repeat constructor)⟩)
        · skip
          refine aExit rfl ?_
          refine aReg ?_
          refine sp pM ?_
          refine sp pAd ?_
          refine sp pMa ?_
          refine oNil ?_
          obtain rfl : m = 3 := by omega
          dsimp only
          rw [← triN_step]
          exact ⟨(n + 1, _, _), by show n + 1 ≤ 3; omega, by (try dsimp only); omega, ⟨gInt rfl (by first | rfl | omega | simp), rfl, trivial⟩, _, (by repeat constructor)⟩
    · skip
      refine aExit rfl ?_
      refine aSeq ?_
      refine aReg ?_
      refine sp pM ?_
      refine sp pMa ?_
      refine oNil ?_
      refine aRet ?_
      refine finOwn rfl ?_
      obtain rfl : n = 3 := by omega
      rw [triN_3]
theorem law37_triangle_s : Triple Try.prog 144 [] [] (Is (.sl 3 (triL.map arcC)) []) := law37_triangle.settle
/- waymarklaw37.awake -/
set_option maxRecDepth 100000 in
set_option maxHeartbeats 400000 in
theorem law37_awake  : Triple Try.prog 60 [] [] (Is (.v (.bool true)) []) := by
  refine triple_of Try.func60 rfl (by kernel_rfl) rfl (by simp) ?_
  refine aSeq ?_
  refine aReg ?_
  refine sp pMa ?_
  refine oNil ?_
  refine aSeq ?_
  refine aReg ?_
  refine sq ?_
  refine ci rfl rfl rfl law37_triangle_s ?_
  refine sq ?_
  refine ci rfl rfl rfl (spare_For (l := triL) (r := 1) (n := 2) (by decide)) ?_
  rw [triL_for]
  refine sp pMa ?_
  refine oNil ?_
  refine aSeq ?_
  refine aReg ?_
  refine sq ?_
  refine ci rfl rfl rfl law37_triangle_s ?_
  refine sq ?_
  refine ci rfl rfl rfl (spare_Covered (l := triL) (r := 1) (by decide)) ?_
  rw [triL_best, triL_rts]
  refine sp pM ?_
  refine sp pX ?_
  refine sp pX ?_
  refine sp pMa ?_
  refine sp pMa ?_
  refine oNil ?_
  refine aSeq ?_
  have h0 : ([⟨2, 3, 2⟩] : List Sp)[(0 : Int).toNat]? = some ⟨2, 3, 2⟩ := rfl
  refine aReg ?_
  refine sp pM ?_
  refine sp (by first | exact pLm sl_65 | exact pLs sl_65 | exact pLv sl_65) ?_
  refine sp pB ?_
  refine sp pM ?_
  refine gp pM ?_
  first | refine gp (pIx es_65) ?_ | refine gp (pIo es_65) ?_
  refine gr (by first | exact rSW ty_68 rfl | exact rSA ty_68 | exact rBWa ty_68 | exact rBW ty_68 | exact rBA ty_68 | exact rArA ty_68 (fun _ => rfl)) ?_
  refine gp (pBuild rfl st_68 ze_68 rfl rfl rfl rfl) ?_
  refine gp (pEqA rfl (.inl rfl) rfl rfl eq_68 rfl rfl) ?_
  refine sp pK ?_
  refine sp pM ?_
  refine gp pM ?_
  refine gp pB ?_
  refine sp pK ?_
  refine sp pM ?_
  refine gp pM ?_
  refine gp pB ?_
  refine sp pK ?_
  refine sp pMa ?_
  refine oNil ?_
  refine aRet ?_
  refine finIs rfl ?_
  rfl
/- waymarklaw37.SpareFree -/
set_option maxRecDepth 100000 in
set_option maxHeartbeats 2000000 in
theorem law37_SpareFree {l : List Arc} {r n : Int} (hll : l.length ≤ 9223372036854775807) : Triple Try.prog 10 [.sl 3 (l.map arcC), .int r, .int n] [] (Is (.v (.bool true)) []) := by
  refine triple_of Try.func10 rfl (by kernel_rfl) rfl (by simp) ?_
  refine aSeq ?_
  refine aReg ?_
  refine sp pMa ?_
  refine oNil ?_
  refine aSeq ?_
  refine aSeq ?_
  refine aReg ?_
  refine sp pM ?_
  refine sp (by first | exact pLm sl_22 | exact pLs sl_22) ?_
  refine sp pB ?_
  refine sp pM ?_
  refine oSplitDec 17 rfl (fun c17 => ?_) (fun c17 => ?_)
  · skip
    refine gf ?_
    refine gf ?_
    refine gf ?_
    refine sp pK ?_
    refine oNil ?_
    refine aCondT rfl ?_
    refine aSeq ?_
    refine aReg ?_
    refine sq ?_
    refine cv rfl rfl rfl (lents_refl _) law37_awake ?_
    refine sp pMa ?_
    refine oNil ?_
    refine aRet ?_
    refine finIs rfl ?_
    rfl
  · skip
    refine gp pM ?_
    have hlen : l.length ≤ 40 := by omega
    refine ga ?_
    refine (cv rfl rfl rfl (lents_refl _) (ref24_May (by omega)) ?_).op
    refine gp pNo ?_
    refine sp pK ?_
    refine oNil ?_
    refine aCondNot rfl (fun c21 => ?_) (fun c21 => ?_)
    · skip
      refine aSeq ?_
      refine aReg ?_
      refine sq ?_
      refine cv rfl rfl rfl (lents_refl _) law37_awake ?_
      refine sp pMa ?_
      refine oNil ?_
      refine aRet ?_
      refine finIs rfl ?_
      rfl
    · skip
      refine aSkip ?_
      refine aSeq ?_
      have hlen : l.length ≤ 40 := by simp_all
      have hyes : arcsB none l = true := by simp_all
      have hfl : (forM l r n).length ≤ 1000000 := by
        unfold forM
        split
        · rename_i x _
          have := List.length_filterMap_le (spOf l r x) (fromO l r)
          have := fromO_len (l := l) (r := r)
          unfold allM
          omega
        · simp
      refine aReg ?_
      refine sp pM ?_
      refine sp pM ?_
      refine sp pM ?_
      refine sq ?_
      refine ci rfl rfl rfl (spare_For (l := l) (r := r) (n := n) (by omega)) ?_
      refine sp pMa ?_
      refine oNil ?_
      refine aSeq ?_
      refine aReg ?_
      refine sp pM ?_
      refine sp pM ?_
      refine sq ?_
      refine ci rfl rfl rfl (graph_Cut_s (l := l) (n := r) (by omega)) ?_
      rw [show (if arcsB none l then cutM l r else []) = cutM l r by rw [if_pos hyes]]
      refine sp pMa ?_
      refine oNil ?_
      refine aSeq ?_
      refine aSeq ?_
      refine aReg ?_
      refine sp pMa ?_
      refine oNil ?_
      refine aBlock ?_
      refine loopF (α := Nat) (kept := [(0, _), (2, _), (7, _), (8, _)]) (fun i => i ≤ (forM l r n).length) (fun i => [(9, .int i)]) (fun i => []) (fun i => (forM l r n).length - i) 0 ?_ ⟨gInt rfl (by first | rfl | omega | simp), rfl, rfl, rfl, rfl, trivial⟩ (by repeat constructor) ?_
      · skip
        omega
      · rintro i hi
        refine aSeq ?_
        refine aSeq ?_
        refine aReg ?_
        refine sp pM ?_
        refine sp pM ?_
        refine sp (by first | exact pLm sl_65 | exact pLs sl_65 | exact pLv sl_65) ?_
        refine sp pB ?_
        refine oNil ?_
        refine aCondDec rfl (fun c33 => ?_) (fun c33 => ?_)
        · skip
          refine aSkip ?_
          refine aSeq ?_
          refine aBlock ?_
          refine aSeq ?_
          obtain ⟨s, hs⟩ : ∃ z, (forM l r n)[i]? = some z := ⟨_, List.getElem?_eq_getElem (by omega)⟩
          obtain ⟨hs1, hs2, hs3⟩ := spare_ok (by omega) (List.mem_of_getElem? hs) hyes
          refine aReg ?_
          refine sp pM ?_
          refine sp pM ?_
          refine sp pM ?_
          first | refine sp (pIx es_65) ?_ | (refine obtSN 38 39 rfl rfl (by omega) (fun x40 hx40 => ?_); refine sp (pIs es_65 hx40) ?_) | (refine obtS 38 39 rfl rfl (by omega) (by omega) (fun x40 hx40 => ?_); refine sp (pIs es_65 hx40) ?_) | refine sp (pIo es_65) ?_
          refine sp (by first | exact pFb fd_68_1 | exact pFs fd_68_1) ?_
          refine sr (by first | exact rS1 ty_3 | exact rB1 ty_3 | exact rAr ty_3 | exact rArL ty_3 | exact rArR2 ty_3) ?_
          refine sp pM ?_
          refine sq ?_
          refine ci rfl rfl rfl (spf_Distance (l := l) (a := s.via) (b := n) (by omega)) ?_
          rw [hs1]
          refine sp pM ?_
          refine sp pX ?_
          refine sp pX ?_
          refine sp pMa ?_
          refine sp pMa ?_
          refine oNil ?_
          refine aSeq ?_
          refine aReg ?_
          refine sp pM ?_
          refine sp pM ?_
          refine sp pM ?_
          first | refine sp (pIx es_65) ?_ | (refine obtSN 49 50 rfl rfl (by omega) (fun x51 hx51 => ?_); refine sp (pIs es_65 hx51) ?_) | (refine obtS 49 50 rfl rfl (by omega) (by omega) (fun x51 hx51 => ?_); refine sp (pIs es_65 hx51) ?_) | refine sp (pIo es_65) ?_
          refine sp (by first | exact pFb fd_68_1 | exact pFs fd_68_1) ?_
          refine sr (by first | exact rS1 ty_3 | exact rB1 ty_3 | exact rAr ty_3 | exact rArL ty_3 | exact rArR2 ty_3) ?_
          refine sp pM ?_
          refine sq ?_
          refine ci rfl rfl rfl (spf_Distance (l := cutM l r) (a := s.via) (b := n) (by have : (cutM l r).length ≤ l.length := List.length_filter_le _ _; omega)) ?_
          rw [hs2, hs3]
          refine sp pM ?_
          refine sp pX ?_
          refine sp pX ?_
          refine sp pMa ?_
          refine sp pMa ?_
          refine oNil ?_
          refine aSeq ?_
          refine aReg ?_
          refine sp pM ?_
          refine sp pNo ?_
          refine sp pM ?_
          refine gp pM ?_
          refine gp pNo ?_
          refine sp pK ?_
          refine sp pM ?_
          refine gp pM ?_
          refine gp pM ?_
          refine gp (pBl (by exact pB) (show _ = false from by simp)) ?_
          refine sp pK ?_
          refine oNil ?_
          refine aCondF rfl ?_
          refine aSkip ?_
          refine aReg ?_
          refine sp pM ?_
          refine sp pAd ?_
          refine sp pMa ?_
          refine oNil ?_
          refine ⟨i + 1, ?_, by (try dsimp only); omega, ⟨gInt rfl (by first | rfl | omega | simp), rfl, rfl, rfl, rfl, trivial⟩, _, (by repeat constructor)⟩
          omega
        · skip
          refine aExit rfl ?_
          refine aSeq ?_
          refine aReg ?_
          refine sq ?_
          refine cv rfl rfl rfl (lents_refl _) law37_awake ?_
          refine sp pMa ?_
          refine oNil ?_
          refine aRet ?_
          refine finIs rfl ?_
          rfl
end A
end Go.Proofs.Ytmcannmjielalaa
namespace Go.Proofs.Ytmcannmjielalaa.spareFree
open Go.ChangeShapes Go.WideShapes Go.ChangeAt Go.RowKit Go.Proofs.Ytmcannmjielalaa.A
open Go.ChangeMaps (open_string shut_string)
set_option linter.unusedVariables false
theorem own : ownKnob Try.prog.godebug = none := by kernel_rfl
theorem laidOut : laidOutB Try.prog = true := A.laidAll
theorem fInPlace : (Rows.spareFreeRow.inPlace == Try.prog.inPlace 10) = true := by kernel_rfl
theorem fUnfollowed : (Rows.spareFreeRow.unfollowed == Try.prog.unfollowed 10) = true := by kernel_rfl
theorem fRecurses : (Rows.spareFreeRow.recurses == Try.prog.recurses 10) = true := by kernel_rfl
theorem fNamed : (Rows.spareFreeRow.named == Try.prog.varsNamed 10) = true := by kernel_rfl
theorem closed : joinedFacts Try.prog 10 Try.f10 Rows.spareFreeSpec Rows.spareFreeRow = true := by
  unfold joinedFacts
  simp only [Bool.and_eq_true]
  refine ⟨⟨⟨⟨⟨⟨⟨⟨⟨⟨⟨⟨⟨⟨⟨⟨⟨⟨⟨⟨⟨⟨⟨⟨⟨⟨⟨⟨⟨⟨⟨?_, A.laidAll⟩, A.mapsAll⟩, ?_⟩, ?_⟩, ?_⟩, ?_⟩, ?_⟩, ?_⟩, fInPlace⟩, fUnfollowed⟩, fRecurses⟩, fNamed⟩, ?_⟩, ?_⟩, ?_⟩, ?_⟩, ?_⟩, ?_⟩, ?_⟩, ?_⟩, ?_⟩, ?_⟩, ?_⟩, A.stopsAll⟩, A.mayE⟩, by rw [A.lifF]; kernel_rfl⟩, by rw [A.mkC]; kernel_rfl⟩, ?_⟩, ?_⟩, ?_⟩, ?_⟩
  all_goals kernel_rfl
set_option maxRecDepth 100000 in
theorem lifted (os : Os) (started : os.Started) (H : Type) (enc : TypeId × Value → H) :
    ReturnsInHanded {} Try.checked os 10 .any (Rows.spareFreeSpec.pre6 enc Try.prog Try.f10 Rows.spareFreeRow.domain false) (Rows.spareFreeSpec.post enc Try.prog Try.f10 false true false false) := by
  refine returnsInHanded_of_change_sized (C := Try.checked) own started (by kernel_rfl) Try.func10
    (ChangeSpec.witness6 (enc := enc) (C := Try.checked) false ⟨#[], #[.slice none 0 0, .int .i64 0, .int .i64 0], []⟩ 8 (by kernel_rfl) (by kernel_rfl) (by kernel_rfl) (by kernel_rfl)) ?_
  intro W base args ds gs before hval0 hW hcnd hsz0 _
  have hval : ∀ (j : Nat) t v, Try.f10.params[j]? = some t → args[j]? = some v → Value.okWide Try.prog W .any base t v := hval0
  have hW' := hW
  obtain ⟨p, q, hA0, hV, rfl, hfz, hnd⟩ := hW
  have hA : DataW.TrodAll enc Try.prog W 0 (fun _ => true) true Try.f10.params.toList args.toList ds p := hA0
  rw [Try.params10] at hA hval
  obtain ⟨v0, vs0, d0, ds0, p0, q0, hargs, rfl, rfl, h0, r0⟩ := trodAll_cons hA
  obtain ⟨v1, vs1, d1, ds1, p1, q1, rfl, rfl, rfl, h1, r1⟩ := trodAll_cons r0
  obtain ⟨v2, vs2, d2, ds2, p2, q2, rfl, rfl, rfl, h2, r2⟩ := trodAll_cons r1
  obtain ⟨rfl, rfl, rfl⟩ := trodAll_nil r2
  obtain rfl : args = #[v0, v1, v2] := by cases args; simp_all
  obtain ⟨rfl, rfl⟩ := trodVars_none hV
  have k0 := h0
  have lt0 : ∀ x ∈ p0, x.block < W.heap.size := by obtain ⟨m, hm⟩ := k0; exact DataW.trod_lt m _ _ _ hm
  have one0 : v0.oneCell' = true := by obtain ⟨_, _, _, rfl⟩ := okWide_slice Try.underlying22 (hval 0 22 v0 rfl rfl); rfl
  obtain ⟨a0, w0, rep0⟩ := argOne (opSlice Try.underlying22 (by kernel_rfl) (by decide) op_Arc) one0 h0
  have k1 := h1
  have lt1 : ∀ x ∈ p1, x.block < W.heap.size := by obtain ⟨m, hm⟩ := k1; exact DataW.trod_lt m _ _ _ hm
  have one1 : v1.oneCell' = true := by obtain ⟨_, rfl⟩ := okWide_int Try.underlying3 (hval 1 3 v1 rfl rfl); rfl
  obtain ⟨a1, w1, rep1⟩ := argOne (opInt Try.underlying3) one1 h1
  have k2 := h2
  have lt2 : ∀ x ∈ p2, x.block < W.heap.size := by obtain ⟨m, hm⟩ := k2; exact DataW.trod_lt m _ _ _ hm
  have one2 : v2.oneCell' = true := by obtain ⟨_, rfl⟩ := okWide_int Try.underlying3 (hval 2 3 v2 rfl rfl); rfl
  obtain ⟨a2, w2, rep2⟩ := argOne (opInt Try.underlying3) one2 h2
  refine (law_calls (law37_SpareFree (l := a0) (r := a1) (n := a2) w0.2) (reps_cons rep0 (reps_cons rep1 (reps_cons rep2 reps_nil)))).mono fun e W' ⟨he, bel⟩ => ?_
  subst he
  exact ⟨_, rfl, _, _, _, [], _, [], hW', trodAll_mk1 (shut_bool Try.underlying4 _), (trodAll_cons_mk (Below.trod laidOut (by kernel_rfl) (of_decide_eq_true (by kernel_rfl)) k0 bel lt0) (trodAll_cons_mk (Below.trod laidOut (by kernel_rfl) (of_decide_eq_true (by kernel_rfl)) k1 bel lt1) (trodAll_cons_mk (Below.trod laidOut (by kernel_rfl) (of_decide_eq_true (by kernel_rfl)) k2 bel lt2) trodAll_mk0))), rfl, bel.frame _, fun h => by cases h⟩
theorem over : Rows.spareFreeRow.holds Try.pinned (OpenSpec.ofChange Rows.spareFreeSpec) :=
  OpenClaim.holds_of_wide 10 Try.f10 rfl rfl rfl rfl rfl rfl rfl ⟨rfl, rfl, rfl, rfl, rfl⟩ rfl rfl rfl rfl rfl (by kernel_rfl) Try.func10 closed
    (of_decide_eq_true (by kernel_rfl)) (by unfold Func.isWrapper; first | (rw [if_pos (by decide +kernel)]; kernel_rfl) | (rw [if_neg (by decide +kernel)]; exact ⟨rfl, rfl⟩))
    (fun os started H enc _ => lifted os started H enc)
theorem proved : Rows.SpareFreeSaid := over
#print axioms proved
end Go.Proofs.Ytmcannmjielalaa.spareFree
