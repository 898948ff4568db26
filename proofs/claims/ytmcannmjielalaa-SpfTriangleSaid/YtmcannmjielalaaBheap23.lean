/- What functions of the program compute: heap23 -/
import Derived.Test.YtmcannmjielalaaBspf25p
import Derived.Test.YtmcannmjielalaaProg
import Derived.KernelRfl
set_option linter.unusedVariables false
set_option linter.unusedSimpArgs false
namespace Go.Proofs.Ytmcannmjielalaa
namespace A

theorem el_261 : elemOf Try.prog 261 = some (162, 2, 16) := by kernel_rfl
theorem es_261 : elemSize Try.prog 261 = some 2 := by kernel_rfl
theorem fd_162_0 : fieldOf Try.prog 162 0 = some (0, 1, false) := by kernel_rfl
theorem fd_162_1 : fieldOf Try.prog 162 1 = some (1, 1, false) := by kernel_rfl
theorem fd_263_0 : fieldOf Try.prog 263 0 = some (0, 1, false) := by kernel_rfl
theorem pt_159 : isPtrT Try.prog 159 = true := by kernel_rfl
theorem sl_261 : isSl Try.prog 261 = true := by kernel_rfl
theorem ty_162 : tyOf Try.prog 162 = some (2, true) := by kernel_rfl
theorem ty_261 : tyOf Try.prog 261 = some (1, false) := by kernel_rfl
theorem ty_37 : tyOf Try.prog 37 = some (1, false) := by kernel_rfl
theorem us_261 : Try.prog.underlying 261 = some (.slice 162) := by kernel_rfl
theorem ze_162 : zeroOf Try.prog 162 = some (.agg #[.int .u64 0, .int .i64 0]) := by kernel_rfl
def spC (p : Int × Int) : List AV := [.v (.int .u64 p.1), .int p.2]

/- cost.Far -/
set_option maxRecDepth 100000 in
set_option maxHeartbeats 400000 in
theorem cost_Far  : Triple Try.prog 226 [] [] (Is (.v (.int .u64 18446744073709551615)) []) := by
  refine triple_of Try.func226 rfl (by kernel_rfl) rfl (by simp) ?_
  refine aSeq ?_
  refine aReg ?_
  refine sp pMa ?_
  refine oNil ?_
  refine aSeq ?_
  refine aReg ?_
  refine sp pMa ?_
  refine oNil ?_
  refine aRet ?_
  refine finIs rfl ?_
  rfl

/- cost.Add -/
set_option maxRecDepth 100000 in
set_option maxHeartbeats 400000 in
theorem cost_Add {a b : Int} (ha : 0 ≤ a) (hb : 0 ≤ b) (ha2 : a ≤ 18446744073709551615) (hb2 : b ≤ 18446744073709551615) : Triple Try.prog 135 [.v (.int .u64 a), .v (.int .u64 b)] [] (Is (.v (.int .u64 (if a > 18446744073709551615 - b then 18446744073709551615 else a + b))) []) := by
  refine triple_of Try.func135 rfl (by kernel_rfl) rfl (by simp) ?_
  refine aSeq ?_
  refine aReg ?_
  refine sp pMa ?_
  refine oNil ?_
  refine aSeq ?_
  refine aSeq ?_
  refine aReg ?_
  refine sp pM ?_
  refine sq ?_
  refine cv rfl rfl rfl (lents_refl _) cost_Far ?_
  refine sp pM ?_
  refine sp (by first | exact pSuK | exact pB) ?_
  refine sp pB ?_
  refine oNil ?_
  refine aCondDec rfl (fun c9 => ?_) (fun c9 => ?_)
  · skip
    refine aSeq ?_
    refine aReg ?_
    refine sq ?_
    refine cv rfl rfl rfl (lents_refl _) cost_Far ?_
    refine sp pMa ?_
    refine oNil ?_
    refine aRet ?_
    refine finIs rfl ?_
    rw [if_pos (by assumption)]
    rfl
  · skip
    refine aSkip ?_
    refine aSeq ?_
    refine aReg ?_
    refine sp pM ?_
    refine sp pM ?_
    refine sp (by first | exact pAdK | exact pB) ?_
    refine sp pMa ?_
    refine oNil ?_
    refine aRet ?_
    refine finIs rfl ?_
    rw [if_neg (by assumption)]
    rfl

/- cost.Less -/
set_option maxRecDepth 100000 in
set_option maxHeartbeats 400000 in
theorem cost_Less {a b : Int × Int} : Triple Try.prog 266 [.agg (spC a), .agg (spC b)] [] (Is (.v (.bool (lessS a b))) []) := by
  refine triple_of Try.func266 rfl (by kernel_rfl) rfl (by simp) ?_
  refine aSeq ?_
  refine aReg ?_
  refine sq ?_
  refine qBox rfl rfl (by decide) rfl rfl (fun b2 => ?_)
  refine sq ?_
  refine qBox rfl rfl (by decide) rfl rfl (fun b3 => ?_)
  refine sp pMa ?_
  refine oNil ?_
  refine aSeq ?_
  refine aSeq ?_
  refine aReg ?_
  refine sp (pFb fd_162_0) ?_
  refine sr (rB1 ty_37) ?_
  refine sp (pFb fd_162_0) ?_
  refine sr (rB1 ty_37) ?_
  refine sp pB ?_
  refine oNil ?_
  refine aCondNe rfl (fun c9 => ?_) (fun c9 => ?_)
  · skip
    refine aSeq ?_
    refine aReg ?_
    refine sp (pFb fd_162_0) ?_
    refine sr (rB1 ty_37) ?_
    refine sp (pFb fd_162_0) ?_
    refine sr (rB1 ty_37) ?_
    refine sp pB ?_
    refine sp pMa ?_
    refine oNil ?_
    refine aRet ?_
    refine finIs rfl ?_
    unfold lessS
    rw [if_pos (by assumption)]
    rfl
  · skip
    refine aSkip ?_
    refine aSeq ?_
    refine aReg ?_
    refine sp (pFb fd_162_1) ?_
    refine sr (rB1 ty_3) ?_
    refine sp (pFb fd_162_1) ?_
    refine sr (rB1 ty_3) ?_
    refine sp pB ?_
    refine sp pMa ?_
    refine oNil ?_
    refine aRet ?_
    refine finIs rfl ?_
    unfold lessS
    rw [if_neg (by omega)]
    rfl

/- heap.Heap).Put -/
def heap_Put_r2_T : Bool × List (List Nat × List Nat) := (true, [([], []), ([], []), ([1], [1]), ([2], [2]), ([3], [3]), ([], []), ([5], [5]), ([4, 6], [4, 6]), ([0, 0, 1, 2, 3, 4, 5, 6, 7], [0]), ([8, 0, 1, 2, 3, 4, 5, 6, 7], [8]), ([9, 7, 7, 0, 1, 2, 3, 4, 5, 6, 7], [7, 9])])
def heap_Put_r2_B : List Nat := [0, 0, 2, 6, 14, 0, 32, 126, 255, 511, 1023]
theorem heap_Put_r2_t : Go.Proofs.YtmcannmjielalaaW.PrintLast.rtab .any (Go.Proofs.YtmcannmjielalaaW.PrintLast.opsOf Try.f219 2) = heap_Put_r2_T := by kernel_rfl
theorem heap_Put_r2_b : Go.Proofs.YtmcannmjielalaaW.PrintLast.waitsOk heap_Put_r2_T.2 heap_Put_r2_B = true := by kernel_rfl
def heap_Put_r6_T : Bool × List (List Nat × List Nat) := (true, [([], []), ([0], [0]), ([1], [1]), ([2], [2]), ([], []), ([3, 4], [3, 4]), ([5], [5]), ([], []), ([7], [7]), ([8], [8]), ([9], [9]), ([], []), ([10, 11], [10, 11]), ([12], [12]), ([6, 13], [6, 13]), ([14], [14])])
def heap_Put_r6_B : List Nat := [0, 1, 3, 7, 0, 31, 63, 0, 128, 384, 896, 0, 3968, 8064, 16383, 32767]
theorem heap_Put_r6_t : Go.Proofs.YtmcannmjielalaaW.PrintLast.rtab .any (Go.Proofs.YtmcannmjielalaaW.PrintLast.opsOf Try.f219 6) = heap_Put_r6_T := by kernel_rfl
theorem heap_Put_r6_b : Go.Proofs.YtmcannmjielalaaW.PrintLast.waitsOk heap_Put_r6_T.2 heap_Put_r6_B = true := by kernel_rfl
def heap_Put_r7_T : Bool × List (List Nat × List Nat) := (true, [([], []), ([0], [0]), ([1], [1]), ([2], [2]), ([], []), ([], []), ([5], [5]), ([6], [6]), ([7], [7]), ([], []), ([], []), ([10], [10]), ([11], [11]), ([12], [12]), ([], []), ([13, 14], [13, 14]), ([15], [15]), ([], []), ([17], [17]), ([18], [18]), ([19], [19]), ([], []), ([20, 21], [20, 21]), ([22], [22]), ([3, 4, 0, 1, 2, 3, 4, 8, 10, 11, 12, 13, 14, 15, 16, 20, 23], [3, 4]), ([24, 16, 0, 1, 2, 3, 4, 8, 10, 11, 12, 13, 14, 15, 16, 20, 23], [16, 24]), ([8, 9, 0, 1, 2, 3, 4, 5, 6, 7, 8, 9, 10, 11, 12, 13, 14, 15, 16, 17, 18, 19, 20, 21, 22, 23, 24, 25], [8, 9]), ([26, 23, 25, 0, 1, 2, 3, 4, 5, 6, 7, 8, 9, 10, 11, 12, 13, 14, 15, 16, 17, 18, 19, 20, 21, 22, 23, 24, 25], [23, 26])])
def heap_Put_r7_B : List Nat := [0, 1, 3, 7, 0, 0, 32, 96, 224, 0, 0, 1024, 3072, 7168, 0, 31744, 64512, 0, 131072, 393216, 917504, 0, 4063232, 8257536, 16776703, 33553919, 67108863, 134217727]
theorem heap_Put_r7_t : Go.Proofs.YtmcannmjielalaaW.PrintLast.rtab .any (Go.Proofs.YtmcannmjielalaaW.PrintLast.opsOf Try.f219 7) = heap_Put_r7_T := by kernel_rfl
theorem heap_Put_r7_b : Go.Proofs.YtmcannmjielalaaW.PrintLast.waitsOk heap_Put_r7_T.2 heap_Put_r7_B = true := by kernel_rfl
set_option maxRecDepth 100000 in
set_option maxHeartbeats 2000000 in
theorem heap_Put (hb : Nat) (g : Option Nat) (c : Nat) (l : List (Int × Int)) (s : Int × Int) (hk : HeapOk l) (hll : l.length ≤ 10000000) : Triple Try.prog 219 [(.v (.pointer (some ⟨hb, 0, none⟩))), .agg (spC s)] [.box hb [.v (slV g l.length c)], .sl g c 162 2 (l.map spC)] (fun r h' => ∃ g' c' l', r = .tup [] ∧ h' = [.box hb [.v (slV g' l'.length c')], .sl g' c' 162 2 (l'.map spC)] ∧ HeapOk l' ∧ l'.Perm (l ++ [s])) := by
  refine triple_of Try.func219 rfl (by kernel_rfl) rfl (by simp) ?_
  refine aSeq ?_
  refine aReg ?_
  refine sq ?_
  refine qBox rfl rfl (by decide) rfl rfl (fun b3 => ?_)
  refine oNil ?_
  refine aSeq ?_
  refine aSeq ?_
  refine aReg ?_
  refine sp pM ?_
  refine sp (by first | exact pPtrNil rfl (.inl rfl) rfl pt_159 rfl rfl | exact pSpNil rfl (.inl rfl) rfl pt_159 rfl) ?_
  refine oNil ?_
  refine aCondF rfl ?_
  refine aSkip ?_
  refine aSeq ?_
  refine aDrawT heap_Put_r2_t heap_Put_r2_b [7, 10] 11 #[false, false, false, false, false, false, false, false, false, false, false] (by kernel_rfl) rfl rfl (fun HT => ?_)
  refine dp HT 0 rfl pM ?_
  refine dp HT 1 rfl pM ?_
  refine dp HT 2 rfl pNv ?_
  refine dp HT 3 rfl (pFb fd_263_0) ?_
  refine dr HT 4 rfl (rB1 ty_261) ?_
  refine dr HT 5 rfl (by first | exact rBWa ty_162 | exact rBW ty_162 | exact rBA ty_162) ?_
  refine dGo ?_
  refine e1 HT 6 rfl ?_
  refine qLit (l := [_]) rfl rfl (by decide) us_261 ty_162 ze_162 rfl (by decide) (by decide) rfl rfl rfl (fun b14 => ?_)
  refine eLast ?_
  refine f1 HT 7 rfl ?_
  refine oAppT ([s] : List (Int × Int)) rfl rfl (by repeat constructor) (srcOwn rfl (by repeat constructor) rfl) el_261 sl_261 (fun g15 k15 => ?_)
  refine fp HT 8 rfl pNv ?_
  refine fp HT 9 rfl (pFb fd_263_0) ?_
  refine f1 HT 10 rfl ?_
  refine oStB rfl rfl rfl rfl (by repeat constructor) ty_261 rfl (Nat.le_of_ble_eq_true rfl) rfl ?_
  refine fE HT ?_
  clear HT
  refine aSeq ?_
  have hls : (l ++ [s]).length = l.length + 1 := by simp
  refine aSome (g := g15) (by repeat constructor) (by simp) (fun b hbb => ?_)
  subst hbb
  refine aReg ?_
  refine sp pM ?_
  refine sp pNv ?_
  refine sp (pFb fd_263_0) ?_
  refine sr (rB1 ty_261) ?_
  refine sp (by first | exact pLm sl_261 | exact pLs sl_261 | exact pLv sl_261) ?_
  refine sp pSu ?_
  refine sp pMa ?_
  refine oNil ?_
  refine aBlock ?_
  refine loopF (α := Nat × List (Int × Int)) (kept := [(0, _)]) (fun (i, h) => h.length = (l ++ [s]).length ∧ i < h.length ∧ UpOk h i ∧ h.Perm (l ++ [s])) (fun (i, h) => [(4, .int i)]) (fun (i, h) => [.box hb [.v (slV (some b) (l ++ [s]).length k15)], .sl (some b) k15 162 2 (h.map spC)]) (fun (i, h) => i) (l.length, l ++ [s]) ?_ ⟨gInt rfl (by first | rfl | omega | simp), rfl, trivial⟩ (by repeat constructor) ?_
  · skip
    exact ⟨rfl, by simp, up_new hk, .refl _⟩
  · rintro ⟨i, h⟩ ⟨hlen, hi, hu, hpm⟩
    refine aSeq ?_
    refine aSeq ?_
    refine aReg ?_
    refine sp pM ?_
    refine sp pB ?_
    refine oNil ?_
    refine aCondDec rfl (fun c25 => ?_) (fun c25 => ?_)
    · skip
      refine aSkip ?_
      refine aBlock ?_
      refine aSeq ?_
      refine aReg ?_
      refine sp pM ?_
      refine sp pSu ?_
      refine sp (pQuoI rfl rfl rfl (by omega) (by rw [Int.tdiv_eq_ediv_of_nonneg (by omega)]; omega) (by rw [Int.tdiv_eq_ediv_of_nonneg (by omega)]; omega)) ?_
      rw [show ((i : Int) - 1).tdiv 2 = (((i - 1) / 2 : Nat) : Int) by rw [Int.tdiv_eq_ediv_of_nonneg (by omega)]; omega]
      refine sp pMa ?_
      refine oNil ?_
      refine aSeq ?_
      refine aSeq ?_
      have hq2 : (i - 1) / 2 < h.length := by omega
      obtain ⟨x, hx⟩ : ∃ x, h[i]? = some x := ⟨_, List.getElem?_eq_getElem (by omega)⟩
      obtain ⟨y, hy⟩ : ∃ y, h[(i - 1) / 2]? = some y := ⟨_, List.getElem?_eq_getElem (by omega)⟩
      refine aDrawT heap_Put_r6_t heap_Put_r6_b [] 16 #[false, false, false, false, false, false, false, false, false, false, false, false, false, false, false, false] (by kernel_rfl) rfl rfl (fun HT => ?_)
      refine dp HT 0 rfl pM ?_
      refine dp HT 1 rfl pNv ?_
      refine dp HT 2 rfl (pFb fd_263_0) ?_
      refine dr HT 3 rfl (rB1 ty_261) ?_
      refine dp HT 4 rfl pM ?_
      first | refine dp HT 5 rfl (pIx es_261) ?_ | (refine obtDN 32 33 rfl rfl (by omega) (fun x34 hx34 => ?_); refine dp HT 5 rfl (pIs es_261 hx34) ?_) | (refine obtD 32 33 rfl rfl (by omega) (by omega) (fun x34 hx34 => ?_); refine dp HT 5 rfl (pIs es_261 hx34) ?_) | refine dp HT 5 rfl (pIo es_261) ?_
      refine dr HT 6 rfl (rOA ty_162 hx) ?_
      refine dp HT 7 rfl pM ?_
      refine dp HT 8 rfl pNv ?_
      refine dp HT 9 rfl (pFb fd_263_0) ?_
      refine dr HT 10 rfl (rB1 ty_261) ?_
      refine dp HT 11 rfl pM ?_
      first | refine dp HT 12 rfl (pIx es_261) ?_ | (refine obtDN 39 40 rfl rfl (by omega) (fun x41 hx41 => ?_); refine dp HT 12 rfl (pIs es_261 hx41) ?_) | (refine obtD 39 40 rfl rfl (by omega) (by omega) (fun x41 hx41 => ?_); refine dp HT 12 rfl (pIs es_261 hx41) ?_) | refine dp HT 12 rfl (pIo es_261) ?_
      refine dr HT 13 rfl (rOA ty_162 hy) ?_
      refine dGo ?_
      refine e1 HT 14 rfl ?_
      refine cv rfl rfl rfl (lents_refl _) cost_Less ?_
      refine ef HT 15 rfl pNo ?_
      refine eE HT ?_
      clear HT
      refine aCondNot rfl (fun c44 => ?_) (fun c44 => ?_)
      · skip
        refine aRet ?_
        exact ⟨_, [_, _], _, rfl, (by repeat constructor), some b, k15, h, rfl, by rw [hlen], up_end hu (.inr (fun x' y' hx' hy' => by rw [hx] at hx'; rw [hy] at hy'; cases hx'; cases hy'; assumption)), hpm⟩
      · skip
        refine aSkip ?_
        refine aSeq ?_
        have hsw : swapH h i ((i - 1) / 2) = (h.set i y).set ((i - 1) / 2) x := by simp [swapH, List.getD, hx, hy]
        refine aDrawT heap_Put_r7_t heap_Put_r7_b [25, 27] 28 #[false, false, false, false, false, false, false, false, false, false, false, false, false, false, false, false, false, false, false, false, false, false, false, false, false, false, false, false] (by kernel_rfl) rfl rfl (fun HT => ?_)
        refine dp HT 0 rfl pM ?_
        refine dp HT 1 rfl pNv ?_
        refine dp HT 2 rfl (pFb fd_263_0) ?_
        refine dr HT 3 rfl (rB1 ty_261) ?_
        refine dp HT 4 rfl pM ?_
        refine dp HT 5 rfl pM ?_
        refine dp HT 6 rfl pNv ?_
        refine dp HT 7 rfl (pFb fd_263_0) ?_
        refine dr HT 8 rfl (rB1 ty_261) ?_
        refine dp HT 9 rfl pM ?_
        refine dp HT 10 rfl pM ?_
        refine dp HT 11 rfl pNv ?_
        refine dp HT 12 rfl (pFb fd_263_0) ?_
        refine dr HT 13 rfl (rB1 ty_261) ?_
        refine dp HT 14 rfl pM ?_
        first | refine dp HT 15 rfl (pIx es_261) ?_ | (refine obtDN 58 59 rfl rfl (by omega) (fun x60 hx60 => ?_); refine dp HT 15 rfl (pIs es_261 hx60) ?_) | (refine obtD 58 59 rfl rfl (by omega) (by omega) (fun x60 hx60 => ?_); refine dp HT 15 rfl (pIs es_261 hx60) ?_) | refine dp HT 15 rfl (pIo es_261) ?_
        refine dr HT 16 rfl (rOA ty_162 hy) ?_
        refine dp HT 17 rfl pM ?_
        refine dp HT 18 rfl pNv ?_
        refine dp HT 19 rfl (pFb fd_263_0) ?_
        refine dr HT 20 rfl (rB1 ty_261) ?_
        refine dp HT 21 rfl pM ?_
        first | refine dp HT 22 rfl (pIx es_261) ?_ | (refine obtDN 65 66 rfl rfl (by omega) (fun x67 hx67 => ?_); refine dp HT 22 rfl (pIs es_261 hx67) ?_) | (refine obtD 65 66 rfl rfl (by omega) (by omega) (fun x67 hx67 => ?_); refine dp HT 22 rfl (pIs es_261 hx67) ?_) | refine dp HT 22 rfl (pIo es_261) ?_
        refine dr HT 23 rfl (rOA ty_162 hx) ?_
        first | refine dp HT 24 rfl (pIx es_261) ?_ | (refine obtDN 48 49 rfl rfl (by omega) (fun x69 hx69 => ?_); refine dp HT 24 rfl (pIs es_261 hx69) ?_) | (refine obtD 48 49 rfl rfl (by omega) (by omega) (fun x69 hx69 => ?_); refine dp HT 24 rfl (pIs es_261 hx69) ?_) | refine dp HT 24 rfl (pIo es_261) ?_
        refine dGo ?_
        refine eLast ?_
        refine f1 HT 25 rfl ?_
        refine oStE (fC := spC) (l := h) (a := y) (i := (i : Int)) rfl rfl rfl rfl ty_162 ?_
        first | refine fp HT 26 rfl (pIx es_261) ?_ | (refine obtFN 53 54 rfl rfl (by omega) (fun x70 hx70 => ?_); refine fp HT 26 rfl (pIs es_261 hx70) ?_) | (refine obtF 53 54 rfl rfl (by omega) (by omega) (fun x70 hx70 => ?_); refine fp HT 26 rfl (pIs es_261 hx70) ?_) | refine fp HT 26 rfl (pIo es_261) ?_
        refine f1 HT 27 rfl ?_
        refine oStE (hi := by rw [List.length_set]; omega) (fC := spC) (a := x) (i := (((i - 1) / 2 : Nat) : Int)) rfl rfl rfl rfl ty_162 ?_
        simp only [Int.toNat_natCast]
        rw [← hsw]
        refine fE HT ?_
        clear HT
        refine aReg ?_
        refine sp pM ?_
        refine sp pMa ?_
        refine oNil ?_
        refine ⟨((i - 1) / 2, swapH h i ((i - 1) / 2)), ?_, by (try dsimp only); omega, ⟨gInt rfl (by first | rfl | omega | simp), rfl, trivial⟩, _, (by repeat constructor)⟩
        exact ⟨by rw [swapH_len]; exact hlen, by rw [swapH_len]; omega, up_swap hi (by omega) hu hx hy (by assumption), (swapH_perm hi (by omega)).trans hpm⟩
    · skip
      refine aExit rfl ?_
      exact ⟨_, [_, _], _, rfl, (by repeat constructor), some b, k15, h, rfl, by rw [hlen], up_end hu (.inl (by omega)), hpm⟩

def LInv (l : List (Int × Int)) (i m k : Nat) : Prop := (m ≠ i → m < l.length) ∧ (m = i ∨ (2 * i + 1 ≤ m ∧ m < k)) ∧ NL l i m ∧ (∀ j, 2 * i + 1 ≤ j → j < k → NL l j m) ∧ 2 * i + 1 ≤ k ∧ k ≤ 2 * i + 3
theorem NL.self {l : List (Int × Int)} {i : Nat} : NL l i i := fun x y hx hy => by rw [hx] at hy; cases hy; rw [lessS_no]; omega
theorem LInv.no {l : List (Int × Int)} {i m k : Nat} (h : LInv l i m k) (hk : k ≤ 2 * i + 2) {x y : Int × Int} (hx : l[k]? = some x) (hy : l[m]? = some y) (hn : lessS x y = false) : LInv l i m (k + 1) := by
  obtain ⟨h1, h2, h3, h4, h5, h6⟩ := h
  refine ⟨h1, by omega, h3, fun j hj hjk => ?_, by omega, by omega⟩
  by_cases e : j = k
  · subst e; intro a b ha hb; rw [hx] at ha; rw [hy] at hb; cases ha; cases hb; exact hn
  · exact h4 j hj (by omega)
theorem LInv.yes {l : List (Int × Int)} {i m k : Nat} (h : LInv l i m k) (hk : k ≤ 2 * i + 2) {x y : Int × Int} (hx : l[k]? = some x) (hy : l[m]? = some y) (hn : lessS x y = true) : LInv l i k (k + 1) := by
  obtain ⟨h1, h2, h3, h4, h5, h6⟩ := h
  have key : ∀ j, NL l j m → NL l j k := fun j hj a b ha hb => by
    rw [hx] at hb
    cases hb
    have := hj a y ha hy
    rw [lessS_no] at *
    rw [lessS_iff] at hn
    omega
  refine ⟨fun _ => (List.getElem?_eq_some_iff.1 hx).1, by omega, key i h3, fun j hj hjk => ?_, by omega, by omega⟩
  by_cases e : j = k
  · subst e; exact NL.self
  · exact key j (h4 j hj (by omega))
theorem LInv.fin {l : List (Int × Int)} {i m k : Nat} (h : LInv l i m k) (hk : 2 * i + 2 < k ∨ l.length ≤ k) : LeastAt l i m := by
  obtain ⟨h1, h2, h3, h4, h5, h6⟩ := h
  have key : ∀ j, 2 * i + 1 ≤ j → j ≤ 2 * i + 2 → NL l j m := fun j a b => by
    by_cases e : j < k
    · exact h4 j a e
    · intro x y hx
      have := (List.getElem?_eq_some_iff.1 hx).1
      omega
  exact ⟨by omega, h3, key _ (by omega) (by omega), key _ (by omega) (by omega)⟩

/- heap.Heap).least -/
def heap_least_r5_T : Bool × List (List Nat × List Nat) := (true, [([], []), ([0], [0]), ([1], [1]), ([2], [2]), ([], []), ([3, 4], [3, 4]), ([5], [5]), ([], []), ([7], [7]), ([8], [8]), ([9], [9]), ([], []), ([10, 11], [10, 11]), ([12], [12]), ([6, 13], [6, 13])])
def heap_least_r5_B : List Nat := [0, 1, 3, 7, 0, 31, 63, 0, 128, 384, 896, 0, 3968, 8064, 16383]
theorem heap_least_r5_t : Go.Proofs.YtmcannmjielalaaW.PrintLast.rtab .any (Go.Proofs.YtmcannmjielalaaW.PrintLast.opsOf Try.f221 5) = heap_least_r5_T := by kernel_rfl
theorem heap_least_r5_b : Go.Proofs.YtmcannmjielalaaW.PrintLast.waitsOk heap_least_r5_T.2 heap_least_r5_B = true := by kernel_rfl
set_option maxRecDepth 100000 in
set_option maxHeartbeats 1000000 in
theorem heap_least (hb b c : Nat) (n : Nat) (l : List (Int × Int)) (i : Nat) (hn : n = l.length) (hi : i ≤ 10000001) (hll : l.length ≤ 10000001) : Triple Try.prog 221 [(.v (.pointer (some ⟨hb, 0, none⟩))), .int i] [.box hb [.v (slV (some b) n c)], .sl (some b) c 162 2 (l.map spC)] (fun r h' => ∃ k : Nat, r = .int k ∧ h' = [.box hb [.v (slV (some b) n c)], .sl (some b) c 162 2 (l.map spC)] ∧ LeastAt l i k ∧ (k ≠ i → i < k ∧ k < l.length)) := by
  refine triple_of Try.func221 rfl (by kernel_rfl) rfl (by simp) ?_
  refine aSeq ?_
  refine aReg ?_
  refine sp pMa ?_
  refine oNil ?_
  refine aSeq ?_
  refine aReg ?_
  refine sp pM ?_
  refine sp pMa ?_
  refine oNil ?_
  refine aSeq ?_
  refine aSeq ?_
  refine aReg ?_
  refine sp pM ?_
  refine sp pMu ?_
  refine sp pAd ?_
  refine sp pMa ?_
  refine oNil ?_
  refine aBlock ?_
  refine loopF (α := Nat × Nat) (kept := [(0, _), (1, _)]) (fun (m, k) => LInv l i m k) (fun (m, k) => [(5, .int m), (6, .int k)]) (fun (m, k) => []) (fun (m, k) => 2 * i + 3 - k) (i, 2 * i + 1) ?_ ⟨gInt rfl (by first | rfl | omega | simp), gInt rfl (by first | rfl | omega | simp), rfl, rfl, trivial⟩ (by repeat constructor) ?_
  · skip
    exact ⟨fun e => absurd rfl e, .inl rfl, NL.self, fun j a b => by omega, by omega, by omega⟩
  · rintro ⟨m, k⟩ hv
    refine aSeq ?_
    refine aSeq ?_
    have hk1 := hv.2.2.2.2.1
    have hk2 := hv.2.2.2.2.2
    refine aReg ?_
    refine sp pM ?_
    refine sp pM ?_
    refine sp pMu ?_
    refine sp pAd ?_
    refine sp pB ?_
    refine sp pM ?_
    refine oSplitDec 16 rfl (fun c16 => ?_) (fun c16 => ?_)
    · skip
      refine gp pM ?_
      refine gp pM ?_
      refine gp pNv ?_
      refine gp (pFb fd_263_0) ?_
      refine gr (rB1 ty_261) ?_
      refine gp (by first | exact pLm sl_261 | exact pLs sl_261 | exact pLv sl_261) ?_
      refine gp pB ?_
      refine sp pK ?_
      refine oNil ?_
      refine aCondDec rfl (fun c24 => ?_) (fun c24 => ?_)
      · skip
        refine aSkip ?_
        refine aSeq ?_
        refine aBlock ?_
        refine aSeq ?_
        have hmk : m < k := by have := hv.2.1; omega
        obtain ⟨x, hx⟩ : ∃ x, l[k]? = some x := ⟨_, List.getElem?_eq_getElem (by omega)⟩
        obtain ⟨y, hy⟩ : ∃ y, l[m]? = some y := ⟨_, List.getElem?_eq_getElem (by omega)⟩
        refine aDrawT heap_least_r5_t heap_least_r5_b [] 15 #[false, false, false, false, false, false, false, false, false, false, false, false, false, false, false] (by kernel_rfl) rfl rfl (fun HT => ?_)
        refine dp HT 0 rfl pM ?_
        refine dp HT 1 rfl pNv ?_
        refine dp HT 2 rfl (pFb fd_263_0) ?_
        refine dr HT 3 rfl (rB1 ty_261) ?_
        refine dp HT 4 rfl pM ?_
        first | refine dp HT 5 rfl (pIx es_261) ?_ | (refine obtDN 30 31 rfl rfl (by omega) (fun x32 hx32 => ?_); refine dp HT 5 rfl (pIs es_261 hx32) ?_) | (refine obtD 30 31 rfl rfl (by omega) (by omega) (fun x32 hx32 => ?_); refine dp HT 5 rfl (pIs es_261 hx32) ?_) | refine dp HT 5 rfl (pIo es_261) ?_
        refine dr HT 6 rfl (rOA ty_162 hx) ?_
        refine dp HT 7 rfl pM ?_
        refine dp HT 8 rfl pNv ?_
        refine dp HT 9 rfl (pFb fd_263_0) ?_
        refine dr HT 10 rfl (rB1 ty_261) ?_
        refine dp HT 11 rfl pM ?_
        first | refine dp HT 12 rfl (pIx es_261) ?_ | (refine obtDN 37 38 rfl rfl (by omega) (fun x39 hx39 => ?_); refine dp HT 12 rfl (pIs es_261 hx39) ?_) | (refine obtD 37 38 rfl rfl (by omega) (by omega) (fun x39 hx39 => ?_); refine dp HT 12 rfl (pIs es_261 hx39) ?_) | refine dp HT 12 rfl (pIo es_261) ?_
        refine dr HT 13 rfl (rOA ty_162 hy) ?_
        refine dGo ?_
        refine e1 HT 14 rfl ?_
        refine cv rfl rfl rfl (lents_refl _) cost_Less ?_
        refine eE HT ?_
        clear HT
        refine aCond rfl (fun c41 => ?_) (fun c41 => ?_)
        · skip
          refine aReg ?_
          refine sp pM ?_
          refine sp pMa ?_
          refine oNil ?_
          refine aReg ?_
          refine sp pM ?_
          refine sp pAd ?_
          refine sp pMa ?_
          refine oNil ?_
          refine ⟨(_, k + 1), ?_, by (try dsimp only); omega, ⟨gInt rfl (by first | rfl | omega | simp), gInt rfl (by first | rfl | omega | simp), rfl, rfl, trivial⟩, _, (by repeat constructor)⟩
          first
            | exact hv.no (by omega) hx hy (by assumption)
            | exact hv.yes (by omega) hx hy (by assumption)
        · skip
          refine aSkip ?_
          refine aReg ?_
          refine sp pM ?_
          refine sp pAd ?_
          refine sp pMa ?_
          refine oNil ?_
          refine ⟨(_, k + 1), ?_, by (try dsimp only); omega, ⟨gInt rfl (by first | rfl | omega | simp), gInt rfl (by first | rfl | omega | simp), rfl, rfl, trivial⟩, _, (by repeat constructor)⟩
          first
            | exact hv.no (by omega) hx hy (by assumption)
            | exact hv.yes (by omega) hx hy (by assumption)
      · skip
        refine aExit rfl ?_
        refine aSeq ?_
        refine aReg ?_
        refine sp pM ?_
        refine sp pMa ?_
        refine oNil ?_
        refine aRet ?_
        exact ⟨_, [_, _], _, rfl, (by repeat constructor), m, rfl, rfl, hv.fin (by omega), fun e => by have := hv.2.1; have := hv.1 e; omega⟩
    · skip
      refine gf ?_
      refine gf ?_
      refine gf ?_
      refine gf ?_
      refine gf ?_
      refine gf ?_
      refine gf ?_
      refine sp pK ?_
      refine oNil ?_
      refine aCondF rfl ?_
      refine aExit rfl ?_
      refine aSeq ?_
      refine aReg ?_
      refine sp pM ?_
      refine sp pMa ?_
      refine oNil ?_
      refine aRet ?_
      exact ⟨_, [_, _], _, rfl, (by repeat constructor), m, rfl, rfl, hv.fin (by omega), fun e => by have := hv.2.1; have := hv.1 e; omega⟩

end A
end Go.Proofs.Ytmcannmjielalaa
