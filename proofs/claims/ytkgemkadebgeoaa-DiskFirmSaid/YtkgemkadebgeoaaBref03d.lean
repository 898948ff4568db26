/- What functions of the program compute: ref03d -/
import Derived.Test.YtkgemkadebgeoaaBref03c
import Derived.Test.YtkgemkadebgeoaaProg
import Derived.KernelRfl
set_option linter.unusedVariables false
set_option linter.unusedSimpArgs false
namespace Go.Proofs.Ytkgemkadebgeoaa
namespace A

theorem st_83 : structPlaces Try.prog 83 = some [(0, 1), (1, 1), (2, 1), (3, 1)] := by kernel_rfl
theorem rangeC_len (w : DW) (n : Nat) : ((List.range n).map w.get).length = n := by simp
theorem rep_row {n : Nat} : List.replicate n (rowC []) = (List.replicate n ([] : BS)).map (fun b => [bsA b]) := rows_rep n

/- waymarkref03.Flush -/
def ref03_Flush_r4_T : Bool × List (List Nat × List Nat) := (true, [([], []), ([0], [0]), ([1], [1]), ([2, 2], [2]), ([], []), ([4], [4]), ([3, 5], [3, 5]), ([], []), ([7, 6, 0, 1, 2, 3, 4, 5, 6, 7], [6, 7])])
def ref03_Flush_r4_B : List Nat := [0, 1, 3, 7, 0, 16, 63, 0, 255]
theorem ref03_Flush_r4_t : Go.Proofs.YtkgemkadebgeoaaW.PrintLast.rtab .any (Go.Proofs.YtkgemkadebgeoaaW.PrintLast.opsOf Try.f87 4) = ref03_Flush_r4_T := by kernel_rfl
theorem ref03_Flush_r4_b : Go.Proofs.YtkgemkadebgeoaaW.PrintLast.waitsOk ref03_Flush_r4_T.2 ref03_Flush_r4_B = true := by kernel_rfl
def ref03_Flush_r8_T : Bool × List (List Nat × List Nat) := (true, [([], []), ([0], [0]), ([], []), ([], []), ([2, 3], [2, 3]), ([4], [4]), ([1, 5, 4], [1, 5]), ([0, 1, 2, 3, 4, 5, 6], []), ([7, 6, 6, 0, 1, 2, 3, 4, 5, 6], [6, 7])])
def ref03_Flush_r8_B : List Nat := [0, 1, 0, 0, 12, 28, 63, 127, 255]
theorem ref03_Flush_r8_t : Go.Proofs.YtkgemkadebgeoaaW.PrintLast.rtab .any (Go.Proofs.YtkgemkadebgeoaaW.PrintLast.opsOf Try.f87 8) = ref03_Flush_r8_T := by kernel_rfl
theorem ref03_Flush_r8_b : Go.Proofs.YtkgemkadebgeoaaW.PrintLast.waitsOk ref03_Flush_r8_T.2 ref03_Flush_r8_B = true := by kernel_rfl
set_option maxRecDepth 100000 in
set_option maxHeartbeats 1000000 in
theorem ref03_Flush (w : DW) (f : Fit w) (ha : w.armed ≤ 9223372036854775807) : Triple Try.prog 87 [.agg (dwC w)] [] (fun q h' => q = .tup [.agg (dwC w.flush.1), .int w.flush.2] ∧ h' = []) := by
  have hwn := f.wn
  have hn2 := f.n2
  have hn1 := f.n1
  refine triple_ofR Try.func87 rfl (by kernel_rfl) rfl (by simp) ?_
  refine aSeq ?_
  refine aReg ?_
  refine sq ?_
  refine qBox rfl rfl (by decide) rfl rfl (fun b1 => ?_)
  refine sq ?_
  refine qAlloc rfl rfl (by decide) ze_83 rfl (fun b2 => ?_)
  refine sp pMa ?_
  refine oNil ?_
  refine aSeq ?_
  refine aReg ?_
  refine sr (by first | exact rBW ty_83 | exact rBA ty_83) ?_
  refine sq ?_
  refine qCall0 rfl rfl (by decide) rfl rfl (ref03_act w ha) ?_
  rintro _ _ ⟨rfl, rfl⟩
  refine sp pM ?_
  refine sp pX ?_
  refine sp pX ?_
  refine sq ?_
  refine qAlloc rfl rfl (by decide) ze_83 rfl (fun b4 => ?_)
  refine sa ?_
  refine oStB rfl rfl rfl rfl (by repeat constructor) ty_83 rfl (Nat.le_of_ble_eq_true rfl) rfl ?_
  refine sp pMa ?_
  refine oNil ?_
  refine aSeq ?_
  refine aSeq ?_
  refine aReg ?_
  refine sp pM ?_
  refine sp pNo ?_
  refine oNil ?_
  refine aCondNot rfl (fun c14 => ?_) (fun c14 => ?_)
  · skip
    refine aSeq ?_
    refine aReg ?_
    refine sr (by first | exact rBW ty_83 | exact rBA ty_83) ?_
    refine sa ?_
    refine oStB rfl rfl rfl rfl (by repeat constructor) ty_83 rfl (Nat.le_of_ble_eq_true rfl) rfl ?_
    refine sp pMa ?_
    refine oNil ?_
    refine aRet ?_
    rw [show w.flush = (w.act.1, 7) by rw [DW.flush, if_neg (by simpa using c14)]]
    refine ⟨[.agg (dwC w.act.1), .int 7], [], _, .cons (.cellA (cs := dwC w.act.1) rfl (by first | exact .head _ | exact .tail _ (.head _) | exact .tail _ (.tail _ (.head _)) | exact .tail _ (.tail _ (.tail _ (.head _)))) ty_83) (.cons (.tmp rfl) .nil), .nil, rfl, rfl⟩
  · skip
    refine aSkip ?_
    refine aSeq ?_
    refine aDrawT ref03_Flush_r4_t ref03_Flush_r4_b [8] 9 #[false, false, false, false, false, false, false, false, false] (by kernel_rfl) rfl rfl (fun HT => ?_)
    refine dp HT 0 rfl (pFb fd_83_0) ?_
    refine dr HT 1 rfl (rB1 ty_81) ?_
    refine dp HT 2 rfl (by first | exact pLm sl_81 | exact pLs sl_81 | exact pLv sl_81) ?_
    refine dp HT 4 rfl (pFb fd_83_2) ?_
    refine dr HT 5 rfl (rB1 ty_3) ?_
    refine dGo ?_
    refine eTwoS (i := 3) (j := 7) #[true, true, true, true, true, true, false, false, false] #[true, true, true, false, true, true, false, true, false] rfl rfl (HT.two (by kernel_rfl)) (by decide) (by decide) ?_ ?_
    · skip
      refine stQ (wantN rfl) (fun t ht => by cases ht <;> decide) ?_
      refine qMake (n := w.safe.length) (zs := rowC []) rfl rfl (by decide) rfl rfl rfl rfl el_81 ze_48 rfl rfl rep_nils (by omega) (by omega) (fun b19 => ?_)
      refine undel (d := 19) rfl ?_
      refine ef HT 6 rfl (pBuild rfl st_83 ze_83 rfl rfl rfl rfl) ?_
      refine e1 HT 7 rfl ?_
      refine qAlloc rfl rfl (by decide) ze_83 rfl (fun b6 => ?_)
      refine eLast ?_
      refine f1 HT 8 rfl ?_
      refine oStB rfl rfl rfl rfl (by repeat constructor) ty_83 rfl (Nat.le_of_ble_eq_true rfl) rfl ?_
      refine fE HT ?_
      clear HT
      refine aSeq ?_
      refine aSeq ?_
      refine aReg ?_
      refine sp pMa ?_
      refine oNil ?_
      refine aBlock ?_
      refine aLoopI (α := Nat × Option Nat × Nat) (fun (i, g, c) => i ≤ w.safe.length) (fun (i, g, c) => ([(1, .v (.pointer (some ⟨b1, 0, none⟩))), (2, .v (.pointer (some ⟨b2, 0, none⟩))), (6, .v (.pointer (some ⟨b6, 0, none⟩))), (7, .int i)], [.sl g c 48 1 (((List.range i).map w.get).map rowC), .box b6 [.v (slV g i c), .v (slV (some b19) w.safe.length w.safe.length), .int w.act.1.armed, .v (.bool false)], .sl (some b19) w.safe.length 48 1 (List.replicate w.safe.length (rowC [])), .box b1 (dwC w), .box b2 [.v (.slice none 0 0), .v (.slice none 0 0), .int 0, .v (.bool false)]])) (fun (i, g, c) => w.safe.length - i) (0, none, 0) ?_ ?_ ?_
      · skip
        omega
      · skip
        exact Weak.trans (weak_nil 48 1) (weak_sub ⟨rfl, rfl, rfl, rfl, trivial⟩ (by repeat constructor))
      · rintro ⟨i, g, c⟩ hi
        skip
        refine aSeq ?_
        refine aSeq ?_
        refine aReg ?_
        refine sp pM ?_
        refine sp (by first | exact pFb fd_83_0 | exact pFs fd_83_0) ?_
        refine sr (by first | exact rS1 ty_81 | exact rB1 ty_81) ?_
        refine sp (by first | exact pLm sl_81 | exact pLs sl_81 | exact pLv sl_81) ?_
        refine sp pB ?_
        refine oNil ?_
        refine aCondDec rfl (fun c27 => ?_) (fun c27 => ?_)
        · skip
          refine aSkip ?_
          refine aSeq ?_
          refine aBlock ?_
          refine aDrawT ref03_Flush_r8_t ref03_Flush_r8_b [6, 8] 9 #[false, false, false, false, false, false, false, false, false] (by kernel_rfl) rfl rfl (fun HT => ?_)
          refine dp HT 0 rfl (by first | exact pFb fd_83_0 | exact pFs fd_83_0) ?_
          refine dr HT 1 rfl (by first | exact rS1 ty_81 | exact rB1 ty_81) ?_
          refine dr HT 2 rfl (by first | exact rSW ty_83 rfl | exact rSA ty_83 | exact rBW ty_83 | exact rBA ty_83) ?_
          refine dp HT 3 rfl pM ?_
          refine dGo ?_
          refine e1 HT 4 rfl ?_
          refine qCall0 rfl rfl (by decide) rfl rfl (ref03_Get w i f (by omega)) ?_
          rintro _ _ ⟨rfl, rfl⟩
          refine e1 HT 5 rfl ?_
          refine qLit (l := [_]) rfl rfl (by decide) us_81 ty_48 ze_48 rfl (by decide) (by decide) rfl rfl rfl (fun b35 => ?_)
          refine eLast ?_
          refine f1 HT 6 rfl ?_
          refine oApp rfl rfl (by decide) rfl (by repeat constructor) (by rw [List.length_map, rangeC_len]) (srcOwn rfl (by repeat constructor) (by first | rfl | simp)) el_81 sl_81 (by intro z hz; rcases List.mem_cons.1 hz with rfl | hz; rfl; cases hz) (by simp; omega) (by simp; omega) (fun g36 k36 => ?_)
          refine fp HT 7 rfl (by first | exact pFb fd_83_0 | exact pFs fd_83_0) ?_
          refine f1 HT 8 rfl ?_
          refine oStB rfl rfl rfl rfl (by repeat constructor) ty_81 rfl (Nat.le_of_ble_eq_true rfl) rfl ?_
          refine fE HT ?_
          clear HT
          refine aReg ?_
          refine sp pM ?_
          refine sp pAd ?_
          refine sp pMa ?_
          refine oNil ?_
          refine ⟨(i + 1, g36, k36), by show i + 1 ≤ _; omega, by show w.safe.length - (i + 1) < w.safe.length - i; omega, ?_⟩
          dsimp only
          rw [← getK_step]
          have hlen : (((List.range i).map w.get).map rowC).length + (List.map avCells [bsA (w.get i)]).length = i + 1 := by simp
          rw [← hlen]
          exact weak_sub ⟨rfl, rfl, rfl, gInt rfl (by simp), trivial⟩ (.cons (.tl .hd) (.cons .hd (by repeat constructor)))
        · skip
          refine aExit rfl ?_
          refine aSeq ?_
          obtain rfl : i = w.safe.length := by omega
          refine aReg ?_
          refine sr (by first | exact rSW ty_83 rfl | exact rSA ty_83 | exact rBW ty_83 | exact rBA ty_83) ?_
          refine oWeak (weak_deep (k := 38) (b := .agg (dwC (⟨(List.range w.safe.length).map w.get, List.replicate w.safe.length [], w.act.1.armed, false⟩ : DW))) rfl (.cons .hd (.cons (.tl .hd) .nil)) (.agg (.sl (List.mem_cons_self ..) (by simp) Deep.refl (.sl (List.mem_cons_of_mem _ (List.mem_cons_self ..)) (by simp) (by show Deep _ _ ((List.replicate w.safe.length ([] : BS)).map rowC); rw [← rows_rep]; exact Deep.refl) (.same (.same (.row .nil))))) (.row .nil))) ?_
          refine sa ?_
          refine oStB rfl rfl rfl rfl (by repeat constructor) ty_83 rfl (Nat.le_of_ble_eq_true rfl) rfl ?_
          refine sp pMa ?_
          refine oNil ?_
          refine aRet ?_
          rw [show w.flush = ((⟨(List.range w.safe.length).map w.get, List.replicate w.safe.length [], w.act.1.armed, false⟩ : DW), 0) by rw [DW.flush, if_pos (by simpa using c14)]]
          refine ⟨[.agg (dwC (⟨(List.range w.safe.length).map w.get, List.replicate w.safe.length [], w.act.1.armed, false⟩ : DW)), .int 0], [], _, .cons (.cellA (cs := dwC (⟨(List.range w.safe.length).map w.get, List.replicate w.safe.length [], w.act.1.armed, false⟩ : DW)) rfl (by first | exact .head _ | exact .tail _ (.head _) | exact .tail _ (.tail _ (.head _)) | exact .tail _ (.tail _ (.tail _ (.head _)))) ty_83) (.cons (.tmp rfl) .nil), .nil, rfl, rfl⟩
    · skip
      refine stQ (wantN rfl) (fun t ht => by cases ht <;> decide) ?_
      refine qAlloc rfl rfl (by decide) ze_83 rfl (fun b6 => ?_)
      refine undel (d := 6) rfl ?_
      refine e1 HT 3 rfl ?_
      refine qMake (n := w.safe.length) (zs := rowC []) rfl rfl (by decide) rfl rfl rfl rfl el_81 ze_48 rfl rfl rep_nils (by omega) (by omega) (fun b19 => ?_)
      refine ef HT 6 rfl (pBuild rfl st_83 ze_83 rfl rfl rfl rfl) ?_
      refine eLast ?_
      refine f1 HT 8 rfl ?_
      refine oStB rfl rfl rfl rfl (by repeat constructor) ty_83 rfl (Nat.le_of_ble_eq_true rfl) rfl ?_
      refine fE HT ?_
      clear HT
      refine aSeq ?_
      refine aSeq ?_
      refine aReg ?_
      refine sp pMa ?_
      refine oNil ?_
      refine aBlock ?_
      refine aLoopI (α := Nat × Option Nat × Nat) (fun (i, g, c) => i ≤ w.safe.length) (fun (i, g, c) => ([(1, .v (.pointer (some ⟨b1, 0, none⟩))), (2, .v (.pointer (some ⟨b2, 0, none⟩))), (6, .v (.pointer (some ⟨b6, 0, none⟩))), (7, .int i)], [.sl g c 48 1 (((List.range i).map w.get).map rowC), .box b6 [.v (slV g i c), .v (slV (some b19) w.safe.length w.safe.length), .int w.act.1.armed, .v (.bool false)], .sl (some b19) w.safe.length 48 1 (List.replicate w.safe.length (rowC [])), .box b1 (dwC w), .box b2 [.v (.slice none 0 0), .v (.slice none 0 0), .int 0, .v (.bool false)]])) (fun (i, g, c) => w.safe.length - i) (0, none, 0) ?_ ?_ ?_
      · skip
        omega
      · skip
        exact Weak.trans (weak_nil 48 1) (weak_sub ⟨rfl, rfl, rfl, rfl, trivial⟩ (by repeat constructor))
      · rintro ⟨i, g, c⟩ hi
        skip
        refine aSeq ?_
        refine aSeq ?_
        refine aReg ?_
        refine sp pM ?_
        refine sp (by first | exact pFb fd_83_0 | exact pFs fd_83_0) ?_
        refine sr (by first | exact rS1 ty_81 | exact rB1 ty_81) ?_
        refine sp (by first | exact pLm sl_81 | exact pLs sl_81 | exact pLv sl_81) ?_
        refine sp pB ?_
        refine oNil ?_
        refine aCondDec rfl (fun c27 => ?_) (fun c27 => ?_)
        · skip
          refine aSkip ?_
          refine aSeq ?_
          refine aBlock ?_
          refine aDrawT ref03_Flush_r8_t ref03_Flush_r8_b [6, 8] 9 #[false, false, false, false, false, false, false, false, false] (by kernel_rfl) rfl rfl (fun HT => ?_)
          refine dp HT 0 rfl (by first | exact pFb fd_83_0 | exact pFs fd_83_0) ?_
          refine dr HT 1 rfl (by first | exact rS1 ty_81 | exact rB1 ty_81) ?_
          refine dr HT 2 rfl (by first | exact rSW ty_83 rfl | exact rSA ty_83 | exact rBW ty_83 | exact rBA ty_83) ?_
          refine dp HT 3 rfl pM ?_
          refine dGo ?_
          refine e1 HT 4 rfl ?_
          refine qCall0 rfl rfl (by decide) rfl rfl (ref03_Get w i f (by omega)) ?_
          rintro _ _ ⟨rfl, rfl⟩
          refine e1 HT 5 rfl ?_
          refine qLit (l := [_]) rfl rfl (by decide) us_81 ty_48 ze_48 rfl (by decide) (by decide) rfl rfl rfl (fun b35 => ?_)
          refine eLast ?_
          refine f1 HT 6 rfl ?_
          refine oApp rfl rfl (by decide) rfl (by repeat constructor) (by rw [List.length_map, rangeC_len]) (srcOwn rfl (by repeat constructor) (by first | rfl | simp)) el_81 sl_81 (by intro z hz; rcases List.mem_cons.1 hz with rfl | hz; rfl; cases hz) (by simp; omega) (by simp; omega) (fun g36 k36 => ?_)
          refine fp HT 7 rfl (by first | exact pFb fd_83_0 | exact pFs fd_83_0) ?_
          refine f1 HT 8 rfl ?_
          refine oStB rfl rfl rfl rfl (by repeat constructor) ty_81 rfl (Nat.le_of_ble_eq_true rfl) rfl ?_
          refine fE HT ?_
          clear HT
          refine aReg ?_
          refine sp pM ?_
          refine sp pAd ?_
          refine sp pMa ?_
          refine oNil ?_
          refine ⟨(i + 1, g36, k36), by show i + 1 ≤ _; omega, by show w.safe.length - (i + 1) < w.safe.length - i; omega, ?_⟩
          dsimp only
          rw [← getK_step]
          have hlen : (((List.range i).map w.get).map rowC).length + (List.map avCells [bsA (w.get i)]).length = i + 1 := by simp
          rw [← hlen]
          exact weak_sub ⟨rfl, rfl, rfl, gInt rfl (by simp), trivial⟩ (.cons (.tl .hd) (.cons .hd (by repeat constructor)))
        · skip
          refine aExit rfl ?_
          refine aSeq ?_
          obtain rfl : i = w.safe.length := by omega
          refine aReg ?_
          refine sr (by first | exact rSW ty_83 rfl | exact rSA ty_83 | exact rBW ty_83 | exact rBA ty_83) ?_
          refine oWeak (weak_deep (k := 38) (b := .agg (dwC (⟨(List.range w.safe.length).map w.get, List.replicate w.safe.length [], w.act.1.armed, false⟩ : DW))) rfl (.cons .hd (.cons (.tl .hd) .nil)) (.agg (.sl (List.mem_cons_self ..) (by simp) Deep.refl (.sl (List.mem_cons_of_mem _ (List.mem_cons_self ..)) (by simp) (by show Deep _ _ ((List.replicate w.safe.length ([] : BS)).map rowC); rw [← rows_rep]; exact Deep.refl) (.same (.same (.row .nil))))) (.row .nil))) ?_
          refine sa ?_
          refine oStB rfl rfl rfl rfl (by repeat constructor) ty_83 rfl (Nat.le_of_ble_eq_true rfl) rfl ?_
          refine sp pMa ?_
          refine oNil ?_
          refine aRet ?_
          rw [show w.flush = ((⟨(List.range w.safe.length).map w.get, List.replicate w.safe.length [], w.act.1.armed, false⟩ : DW), 0) by rw [DW.flush, if_pos (by simpa using c14)]]
          refine ⟨[.agg (dwC (⟨(List.range w.safe.length).map w.get, List.replicate w.safe.length [], w.act.1.armed, false⟩ : DW)), .int 0], [], _, .cons (.cellA (cs := dwC (⟨(List.range w.safe.length).map w.get, List.replicate w.safe.length [], w.act.1.armed, false⟩ : DW)) rfl (by first | exact .head _ | exact .tail _ (.head _) | exact .tail _ (.tail _ (.head _)) | exact .tail _ (.tail _ (.tail _ (.head _)))) ty_83) (.cons (.tmp rfl) .nil), .nil, rfl, rfl⟩

end A
end Go.Proofs.Ytkgemkadebgeoaa
