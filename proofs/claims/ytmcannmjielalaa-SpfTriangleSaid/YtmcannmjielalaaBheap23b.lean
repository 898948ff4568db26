/- What functions of the program compute: heap23b -/
import Derived.Test.YtmcannmjielalaaBheap23
import Derived.Test.YtmcannmjielalaaProg
import Derived.KernelRfl
set_option linter.unusedVariables false
set_option linter.unusedSimpArgs false
namespace Go.Proofs.Ytmcannmjielalaa
namespace A

theorem st_162 : structPlaces Try.prog 162 = some [(0, 1), (1, 1)] := by kernel_rfl
theorem st_263 : structPlaces Try.prog 263 = some [(0, 1)] := by kernel_rfl
theorem ze_263 : zeroOf Try.prog 263 = some (.agg #[.slice none 0 0]) := by kernel_rfl
/- heap.Heap).Len -/
set_option maxRecDepth 100000 in
set_option maxHeartbeats 400000 in
theorem heap_Len (hb : Nat) (g : Option Nat) (c : Nat) (l : List (Int × Int)) : Triple Try.prog 267 [(.v (.pointer (some ⟨hb, 0, none⟩)))] [.box hb [.v (slV g l.length c)], .sl g c 162 2 (l.map spC)] (Is (.int l.length) [.box hb [.v (slV g l.length c)], .sl g c 162 2 (l.map spC)]) := by
  refine triple_of Try.func267 rfl (by kernel_rfl) rfl (by simp) ?_
  refine aSeq ?_
  refine aReg ?_
  refine sp pMa ?_
  refine oNil ?_
  refine aSeq ?_
  refine aSeq ?_
  refine aReg ?_
  refine sp pM ?_
  refine sp (by first | exact pPtrNil rfl (.inl rfl) rfl pt_159 rfl rfl | exact pSpNil rfl (.inl rfl) rfl pt_159 rfl) ?_
  refine oNil ?_
  refine aCondF rfl ?_
  refine aSkip ?_
  refine aSeq ?_
  refine aReg ?_
  refine sp pM ?_
  refine sp pNv ?_
  refine sp (pFb fd_263_0) ?_
  refine sr (rB1 ty_261) ?_
  refine sp (by first | exact pLm sl_261 | exact pLs sl_261 | exact pLv sl_261) ?_
  refine sp pMa ?_
  refine oNil ?_
  refine aRet ?_
  refine finIs rfl ?_
  rfl

/- heap.Heap).First -/
set_option maxRecDepth 100000 in
set_option maxHeartbeats 1000000 in
theorem heap_First (hb : Nat) (g : Option Nat) (c : Nat) (l : List (Int × Int)) : Triple Try.prog 220 [(.v (.pointer (some ⟨hb, 0, none⟩)))] [.box hb [.v (slV g l.length c)], .sl g c 162 2 (l.map spC)] (Is (.tup [.agg (spC (l.headD (0, 0))), .v (.bool (!l.isEmpty))]) [.box hb [.v (slV g l.length c)], .sl g c 162 2 (l.map spC)]) := by
  refine triple_ofR Try.func220 rfl (by kernel_rfl) rfl (by simp) ?_
  refine aSeq ?_
  refine aReg ?_
  refine sq ?_
  refine qAlloc rfl rfl (by decide) ze_162 rfl (fun b2 => ?_)
  refine sp pMa ?_
  refine oNil ?_
  refine aSeq ?_
  refine aSeq ?_
  refine aReg ?_
  refine sp pM ?_
  refine sa ?_
  refine cai rfl rfl rfl (heap_Len hb g c l) ?_
  refine sp pB ?_
  refine oNil ?_
  refine aCondEq rfl (fun c6 => ?_) (fun c6 => ?_)
  · skip
    refine aSeq ?_
    refine aReg ?_
    refine sp (pBuild rfl st_162 ze_162 rfl rfl rfl rfl) ?_
    refine sa ?_
    refine oStW rfl rfl rfl rfl (by repeat constructor) ty_162 ?_
    refine sp pMa ?_
    refine oNil ?_
    refine aRet ?_
    refine finRIs (l := [.agg (spC (0, 0)), .v (.bool false)]) (.cons (.cellA rfl (by repeat (first | exact List.mem_cons_self | apply List.mem_cons_of_mem)) ty_162) (.cons (.tmp rfl) .nil)) ?_
    have : l = [] := by
      have h0 : (l.length : Int) = 0 := by assumption
      exact List.eq_nil_of_length_eq_zero (by omega)
    subst this
    rfl
  · skip
    refine aSkip ?_
    refine aSeq ?_
    refine aSome (g := g) (by repeat constructor) (by intro e; simp at e; subst e; simp at c6) (fun b hbb => ?_)
    subst hbb
    obtain ⟨x, hx⟩ : ∃ x, l[(0 : Int).toNat]? = some x := ⟨_, List.getElem?_eq_getElem (by simp; omega)⟩
    have hl0 : l = x :: l.tail := by cases l <;> simp_all
    refine aReg ?_
    refine sp pM ?_
    refine sp pNv ?_
    refine sp (pFb fd_263_0) ?_
    refine sr (rB1 ty_261) ?_
    first | refine sp (pIx es_261) ?_ | refine sp (pIo es_261) ?_
    refine sr (rOA ty_162 hx) ?_
    refine sa ?_
    refine oStW rfl rfl rfl rfl (by repeat constructor) ty_162 ?_
    refine sp pMa ?_
    refine oNil ?_
    refine aRet ?_
    refine finRIs (l := [.agg (spC x), .v (.bool true)]) (.cons (.cellA rfl (by repeat (first | exact List.mem_cons_self | apply List.mem_cons_of_mem)) ty_162) (.cons (.tmp rfl) .nil)) ?_
    rw [hl0]
    rfl

/- heap.Heap).Take -/
def heap_Take_r5_T : Bool × List (List Nat × List Nat) := (true, [([], []), ([0], [0]), ([1], [1]), ([2], [2]), ([], []), ([4], [4]), ([5], [5]), ([6], [6]), ([], []), ([7, 8], [7, 8]), ([9], [9]), ([3, 0, 1, 2, 3, 4, 5, 6, 7, 8, 9, 10], [3]), ([11, 10, 0, 1, 2, 3, 4, 5, 6, 7, 8, 9, 10], [10, 11])])
def heap_Take_r5_B : List Nat := [0, 1, 3, 7, 0, 16, 48, 112, 0, 496, 1008, 2047, 4095]
theorem heap_Take_r5_t : Go.Proofs.YtmcannmjielalaaW.PrintLast.rtab .any (Go.Proofs.YtmcannmjielalaaW.PrintLast.opsOf Try.f126 5) = heap_Take_r5_T := by kernel_rfl
theorem heap_Take_r5_b : Go.Proofs.YtmcannmjielalaaW.PrintLast.waitsOk heap_Take_r5_T.2 heap_Take_r5_B = true := by kernel_rfl
def heap_Take_r11_T : Bool × List (List Nat × List Nat) := (true, [([], []), ([0], [0]), ([1], [1]), ([2], [2]), ([], []), ([], []), ([5], [5]), ([6], [6]), ([7], [7]), ([], []), ([], []), ([10], [10]), ([11], [11]), ([12], [12]), ([], []), ([13, 14], [13, 14]), ([15], [15]), ([], []), ([17], [17]), ([18], [18]), ([19], [19]), ([], []), ([20, 21], [20, 21]), ([22], [22]), ([3, 4, 0, 1, 2, 3, 4, 8, 10, 11, 12, 13, 14, 15, 16, 20, 23], [3, 4]), ([24, 16, 0, 1, 2, 3, 4, 8, 10, 11, 12, 13, 14, 15, 16, 20, 23], [16, 24]), ([8, 9, 0, 1, 2, 3, 4, 5, 6, 7, 8, 9, 10, 11, 12, 13, 14, 15, 16, 17, 18, 19, 20, 21, 22, 23, 24, 25], [8, 9]), ([26, 23, 25, 0, 1, 2, 3, 4, 5, 6, 7, 8, 9, 10, 11, 12, 13, 14, 15, 16, 17, 18, 19, 20, 21, 22, 23, 24, 25], [23, 26])])
def heap_Take_r11_B : List Nat := [0, 1, 3, 7, 0, 0, 32, 96, 224, 0, 0, 1024, 3072, 7168, 0, 31744, 64512, 0, 131072, 393216, 917504, 0, 4063232, 8257536, 16776703, 33553919, 67108863, 134217727]
theorem heap_Take_r11_t : Go.Proofs.YtmcannmjielalaaW.PrintLast.rtab .any (Go.Proofs.YtmcannmjielalaaW.PrintLast.opsOf Try.f126 11) = heap_Take_r11_T := by kernel_rfl
theorem heap_Take_r11_b : Go.Proofs.YtmcannmjielalaaW.PrintLast.waitsOk heap_Take_r11_T.2 heap_Take_r11_B = true := by kernel_rfl
set_option maxRecDepth 100000 in
set_option maxHeartbeats 2000000 in
theorem heap_Take (hb : Nat) (g : Option Nat) (c : Nat) (l : List (Int × Int)) (hk : HeapOk l) (hll : l.length ≤ 10000000) : Triple Try.prog 126 [(.v (.pointer (some ⟨hb, 0, none⟩)))] [.box hb [.v (slV g l.length c)], .sl g c 162 2 (l.map spC)] (fun r h' => ∃ x q l' g' c', r = .tup [.agg (spC x), .v (.bool q)] ∧ h' = [.box hb [.v (slV g' l'.length c')], .sl g' c' 162 2 (l'.map spC)] ∧ HeapOk l' ∧ (q = false → l = [] ∧ l' = []) ∧ (q = true → l.Perm (x :: l') ∧ ∀ e ∈ l, x.1 ≤ e.1)) := by
  refine triple_ofR Try.func126 rfl (by kernel_rfl) rfl (by simp) ?_
  refine aSeq ?_
  refine aReg ?_
  refine sq ?_
  refine qAlloc rfl rfl (by decide) ze_162 rfl (fun b2 => ?_)
  refine sp pMa ?_
  refine oNil ?_
  refine aSeq ?_
  refine aReg ?_
  refine sp pM ?_
  refine sa ?_
  refine cai rfl rfl rfl (heap_First hb g c l) ?_
  refine sp pM ?_
  refine sp pX ?_
  refine sp pX ?_
  refine sq ?_
  refine qAlloc rfl rfl (by decide) ze_162 rfl (fun b4 => ?_)
  refine sa ?_
  refine oStW rfl rfl rfl rfl (by repeat constructor) ty_162 ?_
  refine sp pMa ?_
  refine oNil ?_
  refine aSeq ?_
  refine aSeq ?_
  refine aReg ?_
  refine sp pM ?_
  refine sp pNo ?_
  refine oNil ?_
  refine aCondNot rfl (fun c15 => ?_) (fun c15 => ?_)
  · skip
    refine aSeq ?_
    refine aReg ?_
    refine sp (pBuild rfl st_162 ze_162 rfl rfl rfl rfl) ?_
    refine sa ?_
    refine oStW rfl rfl rfl rfl (by repeat constructor) ty_162 ?_
    refine sp pMa ?_
    refine oNil ?_
    refine aRet ?_
    refine ⟨[.agg (spC (0, 0)), .v (.bool false)], [.box hb [.v (slV g l.length c)], .sl g c 162 2 (l.map spC)], _, .cons (.cellA rfl (by repeat (first | exact List.mem_cons_self | apply List.mem_cons_of_mem)) ty_162) (.cons (.tmp rfl) .nil), (by repeat constructor), ?_⟩
    have hle : l = [] := by cases l <;> simp_all
    subst hle
    exact ⟨(0, 0), false, [], g, c, rfl, rfl, hk, fun _ => ⟨rfl, rfl⟩, fun h => by cases h⟩
  · skip
    refine aSkip ?_
    refine aSeq ?_
    have hne : l ≠ [] := by intro e; subst e; simp_all
    have hpos : 0 < l.length := List.length_pos_iff.2 hne
    refine aSome (g := g) (by repeat constructor) (by simpa using hne) (fun b hbb => ?_)
    subst hbb
    refine aCap (c := c) (by repeat constructor) (fun hcap => ?_)
    rw [List.length_map] at hcap
    obtain ⟨y0, hy0⟩ : ∃ y, l[((l.length - 1 : Nat) : Int).toNat]? = some y := ⟨_, List.getElem?_eq_getElem (by simp; omega)⟩
    have hy0' : l[l.length - 1]? = some y0 := hy0
    have hl0 : l[0]? = some (l.headD (0, 0)) := by cases l <;> simp_all
    refine aReg ?_
    refine sp pM ?_
    refine sp pNv ?_
    refine sp (pFb fd_263_0) ?_
    refine sr (rB1 ty_261) ?_
    refine sp (by first | exact pLm sl_261 | exact pLs sl_261 | exact pLv sl_261) ?_
    refine sp pSu ?_
    rw [show ((l.length : Int) - 1) = ((l.length - 1 : Nat) : Int) by omega]
    refine sp pMa ?_
    refine oNil ?_
    refine aSeq ?_
    refine aDrawT heap_Take_r5_t heap_Take_r5_b [12] 13 #[false, false, false, false, false, false, false, false, false, false, false, false, false] (by kernel_rfl) rfl rfl (fun HT => ?_)
    refine dp HT 0 rfl pM ?_
    refine dp HT 1 rfl pNv ?_
    refine dp HT 2 rfl (pFb fd_263_0) ?_
    refine dr HT 3 rfl (rB1 ty_261) ?_
    refine dp HT 4 rfl pM ?_
    refine dp HT 5 rfl pNv ?_
    refine dp HT 6 rfl (pFb fd_263_0) ?_
    refine dr HT 7 rfl (rB1 ty_261) ?_
    refine dp HT 8 rfl pM ?_
    first | refine dp HT 9 rfl (pIx es_261) ?_ | (refine obtDN 30 31 rfl rfl (by omega) (fun x32 hx32 => ?_); refine dp HT 9 rfl (pIs es_261 hx32) ?_) | (refine obtD 30 31 rfl rfl (by omega) (by omega) (fun x32 hx32 => ?_); refine dp HT 9 rfl (pIs es_261 hx32) ?_) | refine dp HT 9 rfl (pIo es_261) ?_
    refine dr HT 10 rfl (rOA ty_162 hy0) ?_
    first | refine dp HT 11 rfl (pIx es_261) ?_ | refine dp HT 11 rfl (pIo es_261) ?_
    refine dGo ?_
    refine eLast ?_
    refine f1 HT 12 rfl ?_
    refine oStE (fC := spC) (l := l) (a := y0) (i := (0 : Int)) (hi := by simp; omega) rfl rfl rfl rfl ty_162 ?_
    refine fE HT ?_
    clear HT
    refine aSeq ?_
    refine aReg ?_
    refine sp pM ?_
    refine sp pM ?_
    refine sp pNv ?_
    refine sp (pFb fd_263_0) ?_
    refine sr (rB1 ty_261) ?_
    refine sp pM ?_
    refine sp (pSlHi rfl rfl es_261 (bdI rfl) (by omega)) ?_
    refine sp pNv ?_
    refine sp (pFb fd_263_0) ?_
    refine sa ?_
    refine oStB rfl rfl rfl rfl (by repeat constructor) ty_261 rfl (Nat.le_of_ble_eq_true rfl) rfl ?_
    refine oNil ?_
    refine aSeq ?_
    refine aReg ?_
    refine sp pMa ?_
    refine oNil ?_
    refine aBlock ?_
    refine aWeak (weak_cut (l.length - 1) (by repeat constructor)) ?_
    rw [← List.map_take]
    refine loopF (α := Nat × List (Int × Int)) (kept := [(0, _), (2, _), (4, _)]) (fun (i, h) => DownOk h i ∧ h.Perm ((l.set 0 y0).take (l.length - 1)) ∧ i ≤ l.length) (fun (i, h) => [(7, .int i)]) (fun (i, h) => [.box hb [.v (slV (some b) (l.length - 1) c)], .sl (some b) c 162 2 (h.map spC)]) (fun (i, h) => l.length - i) (0, (l.set 0 y0).take (l.length - 1)) ?_ ⟨gInt rfl (by first | rfl | omega | simp), rfl, rfl, rfl, trivial⟩ (by repeat constructor) ?_
    · skip
      exact ⟨down_new hk, .refl _, by omega⟩
    · rintro ⟨i, h⟩ ⟨hd, hpm, hil⟩
      refine aBlock ?_
      refine aSeq ?_
      refine aReg ?_
      refine sp pM ?_
      refine sp pM ?_
      refine sa ?_
      refine ca rfl rfl rfl (heap_least hb b c (l.length - 1) h i (by rw [hpm.length_eq]; simp) (by omega) (by rw [hpm.length_eq]; simp; omega)) ?_
      rintro _ _ ⟨k, rfl, rfl, hL, hkl⟩
      refine sp pMa ?_
      refine oNil ?_
      refine aSeq ?_
      refine aSeq ?_
      refine aReg ?_
      refine sp pM ?_
      refine sp pM ?_
      refine sp pB ?_
      refine oNil ?_
      refine aCondEq rfl (fun c49 => ?_) (fun c49 => ?_)
      · skip
        refine aSeq ?_
        refine aReg ?_
        refine sr (by first | exact rBWa ty_162 | exact rBW ty_162 | exact rBA ty_162) ?_
        refine sa ?_
        refine oStW rfl rfl rfl rfl (by repeat constructor) ty_162 ?_
        refine sp pMa ?_
        refine oNil ?_
        refine aRet ?_
        refine ⟨[.agg (spC (l.headD (0, 0))), .v (.bool true)], [.box hb [.v (slV (some b) (l.length - 1) c)], .sl (some b) c 162 2 (h.map spC)], _, .cons (.cellA rfl (by repeat (first | exact List.mem_cons_self | apply List.mem_cons_of_mem)) ty_162) (.cons (.tmp rfl) .nil), (by repeat constructor), ?_⟩
        have hki : (k : Int) = i := by assumption
        obtain rfl : k = i := by omega
        refine ⟨l.headD (0, 0), true, h, some b, c, rfl, ?_, down_end hd hL, (fun h => by cases h), fun _ => ⟨?_, heap_first hk hl0⟩⟩
        · rw [show h.length = l.length - 1 by rw [hpm.length_eq]; simp]
        · exact (take_perm hl0 hy0').trans (hpm.symm.cons _)
      · skip
        refine aSkip ?_
        refine aSeq ?_
        have hkl2 := hkl (by omega)
        obtain ⟨x, hx⟩ : ∃ x, h[i]? = some x := ⟨_, List.getElem?_eq_getElem (by omega)⟩
        obtain ⟨y, hy⟩ : ∃ y, h[k]? = some y := ⟨_, List.getElem?_eq_getElem hkl2.2⟩
        have hhl : h.length = l.length - 1 := by rw [hpm.length_eq]; simp
        have hsw : swapH h i k = (h.set i y).set k x := by simp [swapH, List.getD, hx, hy]
        refine aDrawT heap_Take_r11_t heap_Take_r11_b [25, 27] 28 #[false, false, false, false, false, false, false, false, false, false, false, false, false, false, false, false, false, false, false, false, false, false, false, false, false, false, false, false] (by kernel_rfl) rfl rfl (fun HT => ?_)
        refine dp HT 0 rfl pM ?_
        refine dp HT 1 rfl pNv ?_
        refine dp HT 2 rfl (pFb fd_263_0) ?_
        refine dr HT 3 rfl (rB1 ty_261) ?_
        refine dp HT 4 rfl pM ?_
        refine dp HT 5 rfl pM ?_
        refine dp HT 6 rfl pNv ?_
        refine dp HT 7 rfl (pFb fd_263_0) ?_
        refine dr HT 8 rfl (rB1 ty_261) ?_
        refine dp HT 9 rfl pM ?_
        refine dp HT 10 rfl pM ?_
        refine dp HT 11 rfl pNv ?_
        refine dp HT 12 rfl (pFb fd_263_0) ?_
        refine dr HT 13 rfl (rB1 ty_261) ?_
        refine dp HT 14 rfl pM ?_
        first | refine dp HT 15 rfl (pIx es_261) ?_ | (refine obtDN 64 65 rfl rfl (by omega) (fun x66 hx66 => ?_); refine dp HT 15 rfl (pIs es_261 hx66) ?_) | (refine obtD 64 65 rfl rfl (by omega) (by omega) (fun x66 hx66 => ?_); refine dp HT 15 rfl (pIs es_261 hx66) ?_) | refine dp HT 15 rfl (pIo es_261) ?_
        refine dr HT 16 rfl (rOA ty_162 hy) ?_
        refine dp HT 17 rfl pM ?_
        refine dp HT 18 rfl pNv ?_
        refine dp HT 19 rfl (pFb fd_263_0) ?_
        refine dr HT 20 rfl (rB1 ty_261) ?_
        refine dp HT 21 rfl pM ?_
        first | refine dp HT 22 rfl (pIx es_261) ?_ | (refine obtDN 71 72 rfl rfl (by omega) (fun x73 hx73 => ?_); refine dp HT 22 rfl (pIs es_261 hx73) ?_) | (refine obtD 71 72 rfl rfl (by omega) (by omega) (fun x73 hx73 => ?_); refine dp HT 22 rfl (pIs es_261 hx73) ?_) | refine dp HT 22 rfl (pIo es_261) ?_
        refine dr HT 23 rfl (rOA ty_162 hx) ?_
        first | refine dp HT 24 rfl (pIx es_261) ?_ | (refine obtDN 54 55 rfl rfl (by omega) (fun x75 hx75 => ?_); refine dp HT 24 rfl (pIs es_261 hx75) ?_) | (refine obtD 54 55 rfl rfl (by omega) (by omega) (fun x75 hx75 => ?_); refine dp HT 24 rfl (pIs es_261 hx75) ?_) | refine dp HT 24 rfl (pIo es_261) ?_
        refine dGo ?_
        refine eLast ?_
        refine f1 HT 25 rfl ?_
        refine oStE (fC := spC) (l := h) (a := y) (i := (i : Int)) rfl rfl rfl rfl ty_162 ?_
        first | refine fp HT 26 rfl (pIx es_261) ?_ | (refine obtFN 59 60 rfl rfl (by omega) (fun x76 hx76 => ?_); refine fp HT 26 rfl (pIs es_261 hx76) ?_) | (refine obtF 59 60 rfl rfl (by omega) (by omega) (fun x76 hx76 => ?_); refine fp HT 26 rfl (pIs es_261 hx76) ?_) | refine fp HT 26 rfl (pIo es_261) ?_
        refine f1 HT 27 rfl ?_
        refine oStE (hi := by rw [List.length_set]; omega) (fC := spC) (a := x) (i := (k : Int)) rfl rfl rfl rfl ty_162 ?_
        simp only [Int.toNat_natCast]
        rw [← hsw]
        refine fE HT ?_
        clear HT
        refine aReg ?_
        refine sp pM ?_
        refine sp pMa ?_
        refine oNil ?_
        refine ⟨(k, swapH h i k), ?_, by (try dsimp only); omega, ⟨gInt rfl (by first | rfl | omega | simp), rfl, rfl, rfl, trivial⟩, _, (by repeat constructor)⟩
        exact ⟨down_swap (by omega) hkl2.2 hd hL (by omega), (swapH_perm (by omega) hkl2.2).trans hpm, by omega⟩

/- heap.New -/
set_option maxRecDepth 100000 in
set_option maxHeartbeats 1000000 in
theorem heap_New (xs : List (Int × Int)) (hx : xs.length ≤ 1000) : Triple Try.prog 125 [.sl 2 (xs.map spC)] [] (fun r h' => ∃ hb g c h, r = .v (.pointer (some ⟨hb, 0, none⟩)) ∧ h' = [.box hb [.v (slV g h.length c)], .sl g c 162 2 (h.map spC)] ∧ HeapOk h ∧ h.Perm xs) := by
  refine triple_of Try.func125 rfl (by kernel_rfl) rfl (by simp) ?_
  refine aSeq ?_
  refine aReg ?_
  refine sp pMa ?_
  refine oNil ?_
  refine aSeq ?_
  refine aReg ?_
  refine sp (pBuild rfl st_263 ze_263 rfl rfl rfl rfl) ?_
  refine sq ?_
  refine qBox rfl rfl (by decide) rfl rfl (fun b7 => ?_)
  refine sp pMa ?_
  refine oNil ?_
  refine aSeq ?_
  refine aSeq ?_
  refine aWeak (weak_nil 162 2) ?_
  refine aReg ?_
  refine sp pM ?_
  refine sp (by first | exact pLm sl_261 | exact pLs sl_261) ?_
  refine sp pM ?_
  refine oNil ?_
  refine aBlock ?_
  refine loopF (α := Nat × List (Int × Int) × Option Nat × Nat) (kept := [(3, _), (8, _), (9, _)]) (fun (i, h, g, c) => i ≤ xs.length ∧ HeapOk h ∧ h.Perm (xs.take i)) (fun (i, h, g, c) => [(10, .int i)]) (fun (i, h, g, c) => [.box b7 [.v (slV g h.length c)], .sl g c 162 2 (h.map spC)]) (fun (i, h, g, c) => xs.length - i) (0, [], none, 0) ?_ ⟨gInt rfl (by first | rfl | omega | simp), rfl, rfl, rfl, trivial⟩ (by repeat constructor) ?_
  · skip
    exact ⟨by omega, fun j hj x y hx => by simp at hx, .refl _⟩
  · rintro ⟨i, h, g, c⟩ ⟨hi, hk, hpm⟩
    refine aSeq ?_
    refine aReg ?_
    refine sp pB ?_
    refine oNil ?_
    refine aSeq ?_
    refine aCondDec rfl (fun c11 => ?_) (fun c11 => ?_)
    · skip
      refine aSkip ?_
      refine aSeq ?_
      refine aBlock ?_
      refine aSeq ?_
      obtain ⟨x, hxx⟩ : ∃ x, xs[i]? = some x := ⟨_, List.getElem?_eq_getElem (by omega)⟩
      refine aReg ?_
      first | refine sp (pIx es_261) ?_ | (refine obtSN 8 10 rfl rfl (by omega) (fun x12 hx12 => ?_); refine sp (pIs es_261 hx12) ?_) | (refine obtS 8 10 rfl rfl (by omega) (by omega) (fun x12 hx12 => ?_); refine sp (pIs es_261 hx12) ?_) | refine sp (pIo es_261) ?_
      refine sr (by first | exact rSW ty_162 rfl | exact rSA ty_162) ?_
      refine sq ?_
      refine qAlloc rfl rfl (by decide) ze_162 rfl (fun b5 => ?_)
      refine sa ?_
      refine oStW rfl rfl rfl rfl (by repeat constructor) ty_162 ?_
      refine oNil ?_
      refine aReg ?_
      refine sp pM ?_
      refine sr (by first | exact rBWa ty_162 | exact rBW ty_162 | exact rBA ty_162) ?_
      refine sa ?_
      refine ca rfl rfl rfl (heap_Put b7 g c h x hk (by have := hpm.length_eq; rw [List.length_take] at this; omega)) ?_
      rintro _ _ ⟨g', c', h', rfl, rfl, hk', hpm'⟩
      refine oNil ?_
      refine aReg ?_
      refine sp pAd ?_
      refine sp pM ?_
      refine oNil ?_
      refine ⟨(i + 1, h', g', c'), ?_, by (try dsimp only); omega, ⟨gInt rfl (by first | rfl | omega | simp), rfl, rfl, rfl, trivial⟩, _, (by repeat constructor)⟩
      exact ⟨by omega, hk', by rw [take_step hxx]; exact hpm'.trans (hpm.append_right _)⟩
    · skip
      refine aExit rfl ?_
      refine aSeq ?_
      refine aReg ?_
      refine sp pM ?_
      refine sp pMa ?_
      refine oNil ?_
      refine aRet ?_
      rw [take_all (by omega)] at hpm
      exact ⟨_, [_, _], _, rfl, (by repeat constructor), b7, g, c, h, rfl, rfl, hk, hpm⟩

end A
end Go.Proofs.Ytmcannmjielalaa
