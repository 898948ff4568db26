/- What functions of the program compute: ref03e -/
import Derived.Test.YtkgemkadebgeoaaBref03d
import Derived.Test.YtkgemkadebgeoaaProg
import Derived.KernelRfl
set_option linter.unusedVariables false
set_option linter.unusedSimpArgs false
namespace Go.Proofs.Ytkgemkadebgeoaa
namespace A

theorem crash1_len (w : DW) (s : List BS) (p : Nat × DTear) : (crash1 w s p).length = s.length := by
  unfold crash1
  split
  · simp
  · split <;> simp

/- waymarkref03.New -/
def ref03_New_r5_T : Bool × List (List Nat × List Nat) := (true, [([], []), ([0], [0]), ([], []), ([2], [2]), ([1, 3], [1, 3]), ([0, 1, 2, 3, 4], []), ([5, 4, 4, 0, 1, 2, 3, 4], [4, 5])])
def ref03_New_r5_B : List Nat := [0, 1, 0, 4, 15, 31, 63]
theorem ref03_New_r5_t : Go.Proofs.YtkgemkadebgeoaaW.PrintLast.rtab .any (Go.Proofs.YtkgemkadebgeoaaW.PrintLast.opsOf Try.f44 5) = ref03_New_r5_T := by kernel_rfl
theorem ref03_New_r5_b : Go.Proofs.YtkgemkadebgeoaaW.PrintLast.waitsOk ref03_New_r5_T.2 ref03_New_r5_B = true := by kernel_rfl
set_option maxRecDepth 100000 in
set_option maxHeartbeats 1000000 in
theorem ref03_New (n : Nat) (h1 : 1 ≤ n) (h2 : n ≤ 1024) : Triple Try.prog 44 [.int n] [] (fun q h' => q = .agg (dwC (DW.new n)) ∧ h' = []) := by
  refine triple_ofR Try.func44 rfl (by kernel_rfl) rfl (by simp) ?_
  refine aSeq ?_
  refine aReg ?_
  refine sq ?_
  refine qAlloc rfl rfl (by decide) ze_83 rfl (fun b2 => ?_)
  refine oNil ?_
  refine aSeq ?_
  refine aReg ?_
  refine sp pM ?_
  refine sq ?_
  refine qMake (n := n) (zs := rowC []) rfl rfl (by decide) rfl rfl rfl rfl el_81 ze_48 rfl rfl rep_nils (by omega) (by omega) (fun b6 => ?_)
  refine sp (pBuild rfl st_83 ze_83 rfl rfl rfl rfl) ?_
  refine sq ?_
  refine qAlloc rfl rfl (by decide) ze_83 rfl (fun b3 => ?_)
  refine sa ?_
  refine oStB rfl rfl rfl rfl (by repeat constructor) ty_83 rfl (Nat.le_of_ble_eq_true rfl) rfl ?_
  refine oNil ?_
  refine aSeq ?_
  refine aSeq ?_
  refine aReg ?_
  refine sp pMa ?_
  refine oNil ?_
  refine aBlock ?_
  refine aLoopI (α := Nat × Option Nat × Nat) (fun (i, g, c) => i ≤ n) (fun (i, g, c) => ([(0, .int n), (2, .v (.pointer (some ⟨b2, 0, none⟩))), (3, .v (.pointer (some ⟨b3, 0, none⟩))), (4, .int i)], [.sl g c 48 1 ((List.replicate i zeros).map rowC), .box b3 [.v (slV g i c), .v (slV (some b6) n n), .int (-1), .v (.bool false)], .sl (some b6) n 48 1 (List.replicate n (rowC [])), .box b2 [.v (.slice none 0 0), .v (.slice none 0 0), .int 0, .v (.bool false)]])) (fun (i, g, c) => n - i) (0, none, 0) ?_ ?_ ?_
  · skip
    omega
  · skip
    exact Weak.trans (weak_nil 48 1) (weak_sub ⟨rfl, rfl, rfl, rfl, trivial⟩ (by repeat constructor))
  · rintro ⟨i, g, c⟩ hi
    skip
    refine aSeq ?_
    refine aSeq ?_
    refine aReg ?_
    refine sp pM ?_
    refine sp pM ?_
    refine sp pB ?_
    refine oNil ?_
    refine aCondDec rfl (fun c10 => ?_) (fun c10 => ?_)
    · skip
      refine aSkip ?_
      refine aSeq ?_
      refine aBlock ?_
      refine aDrawT ref03_New_r5_t ref03_New_r5_b [4, 6] 7 #[false, false, false, false, false, false, false] (by kernel_rfl) rfl rfl (fun HT => ?_)
      refine dp HT 0 rfl (by first | exact pFb fd_83_0 | exact pFs fd_83_0) ?_
      refine dr HT 1 rfl (by first | exact rS1 ty_81 | exact rB1 ty_81) ?_
      refine dGo ?_
      refine e1 HT 2 rfl ?_
      refine qMake (n := 512) (zs := by1 0) rfl rfl (by decide) rfl rfl rfl rfl el_48 ze_5 rfl rfl rep_zeros (by decide) (by decide) (fun b15 => ?_)
      refine eSettle (k := 15) rfl .hd List.length_replicate.symm ?_
      refine e1 HT 3 rfl ?_
      refine qLit (l := [_]) rfl rfl (by decide) us_81 ty_48 ze_48 rfl (by decide) (by decide) rfl rfl rfl (fun b16 => ?_)
      refine eLast ?_
      refine f1 HT 4 rfl ?_
      refine oApp rfl rfl (by decide) rfl (by repeat constructor) (by simp) (srcOwn rfl (by repeat constructor) (by first | rfl | simp)) el_81 sl_81 (by intro z hz; rcases List.mem_cons.1 hz with rfl | hz; rfl; cases hz) (by simp; omega) (by simp; omega) (fun g17 k17 => ?_)
      refine fp HT 5 rfl (by first | exact pFb fd_83_0 | exact pFs fd_83_0) ?_
      refine f1 HT 6 rfl ?_
      refine oStB rfl rfl rfl rfl (by repeat constructor) ty_81 rfl (Nat.le_of_ble_eq_true rfl) rfl ?_
      refine fE HT ?_
      clear HT
      refine aReg ?_
      refine sp pM ?_
      refine sp pAd ?_
      refine sp pMa ?_
      refine oNil ?_
      refine ⟨(i + 1, g17, k17), by show i + 1 ≤ _; omega, by show n - (i + 1) < n - i; omega, ?_⟩
      dsimp only
      rw [← zrow_step, show rowC zeros = [AV.sl 1 (List.replicate 512 (by1 0))] by rw [rowC, bsA, zeros_map]]
      have hlen : ((List.replicate i zeros).map rowC).length + (List.map avCells [AV.sl 1 (List.replicate 512 (by1 0))]).length = i + 1 := by rw [List.length_map, List.length_map, List.length_replicate]; rfl
      rw [← hlen]
      exact weak_sub ⟨rfl, rfl, rfl, gInt rfl (by simp), trivial⟩ (.cons (.tl .hd) (.cons .hd (by repeat constructor)))
    · skip
      refine aExit rfl ?_
      refine aSeq ?_
      obtain rfl : i = n := by omega
      refine aReg ?_
      refine sr (by first | exact rSW ty_83 rfl | exact rSA ty_83 | exact rBW ty_83 | exact rBA ty_83) ?_
      refine oWeak (weak_deep (k := 19) (b := .agg (dwC (DW.new i))) rfl (.cons .hd (.cons (.tl .hd) .nil)) (.agg (.sl (List.mem_cons_self ..) (by simp) Deep.refl (.sl (List.mem_cons_of_mem _ (List.mem_cons_self ..)) (by simp) (by show Deep _ _ ((List.replicate i ([] : BS)).map rowC); rw [← rows_rep]; exact Deep.refl) (.same (.same (.row .nil))))) (.row .nil))) ?_
      refine sa ?_
      refine oStB rfl rfl rfl rfl (by repeat constructor) ty_83 rfl (Nat.le_of_ble_eq_true rfl) rfl ?_
      refine oNil ?_
      refine aRet ?_
      refine ⟨[.agg (dwC (DW.new i))], [], _, .cons (.cellA (cs := dwC (DW.new i)) rfl (.head _) ty_83) .nil, .nil, rfl, rfl⟩

/- waymarkref03.Crash -/
def ref03_Crash_r2_T : Bool × List (List Nat × List Nat) := (true, [([], []), ([], []), ([1], [1]), ([0, 2], [0, 2]), ([], []), ([4], [4]), ([5], [5]), ([6, 6], [6]), ([3, 7], [3, 7]), ([], []), ([9, 8, 3, 0, 1, 2, 3, 4, 5, 6, 7, 8, 9], [8, 9])])
def ref03_Crash_r2_B : List Nat := [0, 0, 2, 7, 0, 16, 48, 112, 255, 0, 1023]
theorem ref03_Crash_r2_t : Go.Proofs.YtkgemkadebgeoaaW.PrintLast.rtab .any (Go.Proofs.YtkgemkadebgeoaaW.PrintLast.opsOf Try.f88 2) = ref03_Crash_r2_T := by kernel_rfl
theorem ref03_Crash_r2_b : Go.Proofs.YtkgemkadebgeoaaW.PrintLast.waitsOk ref03_Crash_r2_T.2 ref03_Crash_r2_B = true := by kernel_rfl
def ref03_Crash_r7_T : Bool × List (List Nat × List Nat) := (true, [([], []), ([0], [0]), ([], []), ([], []), ([2, 3], [2, 3]), ([4], [4]), ([], []), ([6], [6]), ([], []), ([], []), ([8, 9], [8, 9]), ([10], [10]), ([7, 11], [7, 11]), ([12], [12]), ([1, 5, 0, 1, 2, 3, 4, 5, 6, 7, 8, 9, 10, 11, 12, 13], [1, 5]), ([14, 13, 0, 1, 2, 3, 4, 5, 6, 7, 8, 9, 10, 11, 12, 13], [13, 14])])
def ref03_Crash_r7_B : List Nat := [0, 1, 0, 0, 12, 28, 0, 64, 0, 0, 768, 1792, 4032, 8128, 16383, 32767]
theorem ref03_Crash_r7_t : Go.Proofs.YtkgemkadebgeoaaW.PrintLast.rtab .any (Go.Proofs.YtkgemkadebgeoaaW.PrintLast.opsOf Try.f88 7) = ref03_Crash_r7_T := by kernel_rfl
theorem ref03_Crash_r7_b : Go.Proofs.YtkgemkadebgeoaaW.PrintLast.waitsOk ref03_Crash_r7_T.2 ref03_Crash_r7_B = true := by kernel_rfl
def ref03_Crash_r9_T : Bool × List (List Nat × List Nat) := (true, [([], []), ([0], [0]), ([], []), ([], []), ([2, 3], [2, 3]), ([4], [4]), ([], []), ([], []), ([6, 7], [6, 7]), ([8], [8]), ([9], [9]), ([], []), ([11], [11]), ([], []), ([], []), ([13, 14], [13, 14]), ([15], [15]), ([12, 16], [12, 16]), ([17], [17]), ([10, 18], [10, 18]), ([1, 5, 0, 1, 2, 3, 4, 5, 6, 7, 8, 9, 10, 11, 12, 13, 14, 15, 16, 17, 18, 19], [1, 5]), ([20, 19, 19, 0, 1, 2, 3, 4, 5, 6, 7, 8, 9, 10, 11, 12, 13, 14, 15, 16, 17, 18, 19], [19, 20])])
def ref03_Crash_r9_B : List Nat := [0, 1, 0, 0, 12, 28, 0, 0, 192, 448, 960, 0, 2048, 0, 0, 24576, 57344, 129024, 260096, 524224, 1048575, 2097151]
theorem ref03_Crash_r9_t : Go.Proofs.YtkgemkadebgeoaaW.PrintLast.rtab .any (Go.Proofs.YtkgemkadebgeoaaW.PrintLast.opsOf Try.f88 9) = ref03_Crash_r9_T := by kernel_rfl
theorem ref03_Crash_r9_b : Go.Proofs.YtkgemkadebgeoaaW.PrintLast.waitsOk ref03_Crash_r9_T.2 ref03_Crash_r9_B = true := by kernel_rfl
set_option maxRecDepth 100000 in
set_option maxHeartbeats 2000000 in
theorem ref03_Crash (w : DW) (f : Fit w) (l : List DTear) (hl : l.length ≤ 1000000) (hb : ∀ t ∈ l, t.b.length ≤ 1000) : Triple Try.prog 88 [.agg (dwC w), .sl 2 (l.map tearC)] [] (fun q h' => q = .agg (dwC (w.crash l)) ∧ h' = []) := by
  have hwn := f.wn
  have hn2 := f.n2
  have hn1 := f.n1
  have hwl : w.waiting.length ≤ w.waits.length := by rw [← waitK_all]; exact waitK_len w _
  refine triple_ofR Try.func88 rfl (by kernel_rfl) rfl (by simp) ?_
  refine aSeq ?_
  refine aReg ?_
  refine sq ?_
  refine qBox rfl rfl (by decide) rfl rfl (fun b2 => ?_)
  refine sq ?_
  refine qAlloc rfl rfl (by decide) ze_83 rfl (fun b4 => ?_)
  refine oNil ?_
  refine aSeq ?_
  refine aReg ?_
  refine sr (by first | exact rBW ty_83 | exact rBA ty_83) ?_
  refine sa ?_
  refine aCall rfl rfl (by decide) rfl rfl .nil (ref03_Waiting w f) ?_
  rintro _ _ ⟨g9, c9, rfl, rfl⟩
  refine oWeak (weak_settle (k := 9) rfl .hd (natsA_len _).symm) ?_
  refine sp pMa ?_
  refine oNil ?_
  refine aCutI (α := Option Nat × Nat × Nat × Nat) (fun (g, c, p, q) => True) (fun (g, c, p, q) => ([(1, .sl 2 (l.map tearC)), (2, .v (.pointer (some ⟨b2, 0, none⟩))), (4, .v (.pointer (some ⟨b4, 0, none⟩))), (5, waitA w), (6, .v (.pointer (some ⟨p, 0, none⟩)))], [.sl g c 48 1 (w.safe.map rowC), .box p [.v (slV g w.safe.length c), .v (slV (some q) w.safe.length w.safe.length), .int (-1), .v (.bool false)], .sl (some q) w.safe.length 48 1 (List.replicate w.safe.length (rowC [])), .box b2 (dwC w), .box b4 [.v (.slice none 0 0), .v (.slice none 0 0), .int 0, .v (.bool false)]])) ?_ ?_
  · skip
    refine aDrawT ref03_Crash_r2_t ref03_Crash_r2_b [10] 11 #[false, false, false, false, false, false, false, false, false, false, false] (by kernel_rfl) rfl rfl (fun HT => ?_)
    refine dp HT 1 rfl (pFb fd_83_0) ?_
    refine dr HT 2 rfl (rB1 ty_81) ?_
    refine dp HT 4 rfl (pFb fd_83_0) ?_
    refine dr HT 5 rfl (rB1 ty_81) ?_
    refine dp HT 6 rfl (by first | exact pLm sl_81 | exact pLs sl_81 | exact pLv sl_81) ?_
    refine dGo ?_
    refine eThreeS (i := 0) (j := 7) (k := 9) #[true, true, true, false, true, true, true, false, false, false, false] #[false, true, true, false, true, true, true, true, false, false, false] #[false, true, true, false, true, true, true, false, false, true, false] rfl rfl rfl (HT.three (by kernel_rfl)) (by decide) (by decide) (by decide) ?_ ?_ ?_
    · skip
      refine stQ (wantN rfl) (fun t ht => by cases ht <;> decide) ?_
      refine qLit (l := []) rfl rfl (by decide) us_81 ty_48 ze_48 rfl (by decide) (by decide) rfl rfl rfl (fun b10 => ?_)
      refine undel (d := 10) rfl ?_
      refine eThreeS (i := 3) (j := 7) (k := 9) #[true, true, true, true, true, true, true, false, false, false, false] #[true, true, true, false, true, true, true, true, false, false, false] #[true, true, true, false, true, true, true, false, false, true, false] rfl rfl rfl (HT.three (by kernel_rfl)) (by decide) (by decide) (by decide) ?_ ?_ ?_
      · skip
        refine stA (hx := [.sl (some b10) 0 48 1 []]) (wantN rfl) (fun t ht => by cases ht <;> decide) (.cons (by repeat constructor) .nil) (by repeat constructor) ?_
        refine oApp rfl rfl (by decide) rfl (by repeat constructor) rfl (.inl rfl) el_81 sl_81 rowC_len (by simp; omega) (by simp; omega) (fun g13 k13 => ?_)
        refine undel (d := 13) rfl ?_
        dsimp only [List.cons_append, List.nil_append]
        refine eTwoS (i := 7) (j := 9) #[true, true, true, true, true, true, true, true, false, false, false] #[true, true, true, true, true, true, true, false, false, true, false] rfl rfl (HT.two (by kernel_rfl)) (by decide) (by decide) ?_ ?_
        · skip
          refine stQ (wantN rfl) (fun t ht => by cases ht <;> decide) ?_
          refine qMake (n := w.safe.length) (zs := rowC []) rfl rfl (by decide) rfl rfl rfl rfl el_81 ze_48 rfl rfl rep_nils (by omega) (by omega) (fun b17 => ?_)
          refine undel (d := 17) rfl ?_
          refine ef HT 8 rfl (pBuild rfl st_83 ze_83 rfl rfl rfl rfl) ?_
          refine e1 HT 9 rfl ?_
          refine qAlloc rfl rfl (by decide) ze_83 rfl (fun b6 => ?_)
          refine eLast ?_
          refine f1 HT 10 rfl ?_
          refine oStB rfl rfl rfl rfl (by repeat constructor) ty_83 rfl (Nat.le_of_ble_eq_true rfl) rfl ?_
          refine fE HT ?_
          clear HT
          refine ⟨(g13, k13, b6, b17), trivial, ?_⟩
          dsimp only
          have hlen : (List.map avCells []).length + (w.safe.map rowC).length = w.safe.length := by simp
          rw [← hlen]
          exact weak_sub ⟨rfl, rfl, rfl, rfl, rfl, trivial⟩ (by repeat constructor)
        · skip
          refine stQ (wantN rfl) (fun t ht => by cases ht <;> decide) ?_
          refine qAlloc rfl rfl (by decide) ze_83 rfl (fun b6 => ?_)
          refine undel (d := 6) rfl ?_
          refine e1 HT 7 rfl ?_
          refine qMake (n := w.safe.length) (zs := rowC []) rfl rfl (by decide) rfl rfl rfl rfl el_81 ze_48 rfl rfl rep_nils (by omega) (by omega) (fun b17 => ?_)
          refine ef HT 8 rfl (pBuild rfl st_83 ze_83 rfl rfl rfl rfl) ?_
          refine eLast ?_
          refine f1 HT 10 rfl ?_
          refine oStB rfl rfl rfl rfl (by repeat constructor) ty_83 rfl (Nat.le_of_ble_eq_true rfl) rfl ?_
          refine fE HT ?_
          clear HT
          refine ⟨(g13, k13, b6, b17), trivial, ?_⟩
          dsimp only
          have hlen : (List.map avCells []).length + (w.safe.map rowC).length = w.safe.length := by simp
          rw [← hlen]
          exact weak_sub ⟨rfl, rfl, rfl, rfl, rfl, trivial⟩ (by repeat constructor)
      · skip
        refine stQ (wantN rfl) (fun t ht => by cases ht <;> decide) ?_
        refine qMake (n := w.safe.length) (zs := rowC []) rfl rfl (by decide) rfl rfl rfl rfl el_81 ze_48 rfl rfl rep_nils (by omega) (by omega) (fun b17 => ?_)
        refine undel (d := 17) rfl ?_
        refine eTwoS (i := 3) (j := 9) #[true, true, true, true, true, true, true, true, false, false, false] #[true, true, true, false, true, true, true, true, false, true, false] rfl rfl (HT.two (by kernel_rfl)) (by decide) (by decide) ?_ ?_
        · skip
          refine stA (hx := [.sl (some b10) 0 48 1 []]) (wantN rfl) (fun t ht => by cases ht <;> decide) (.cons (by repeat constructor) .nil) (by repeat constructor) ?_
          refine oApp rfl rfl (by decide) rfl (by repeat constructor) rfl (.inl rfl) el_81 sl_81 rowC_len (by simp; omega) (by simp; omega) (fun g13 k13 => ?_)
          refine undel (d := 13) rfl ?_
          dsimp only [List.cons_append, List.nil_append]
          refine ef HT 8 rfl (pBuild rfl st_83 ze_83 rfl rfl rfl rfl) ?_
          refine e1 HT 9 rfl ?_
          refine qAlloc rfl rfl (by decide) ze_83 rfl (fun b6 => ?_)
          refine eLast ?_
          refine f1 HT 10 rfl ?_
          refine oStB rfl rfl rfl rfl (by repeat constructor) ty_83 rfl (Nat.le_of_ble_eq_true rfl) rfl ?_
          refine fE HT ?_
          clear HT
          refine ⟨(g13, k13, b6, b17), trivial, ?_⟩
          dsimp only
          have hlen : (List.map avCells []).length + (w.safe.map rowC).length = w.safe.length := by simp
          rw [← hlen]
          exact weak_sub ⟨rfl, rfl, rfl, rfl, rfl, trivial⟩ (by repeat constructor)
        · skip
          refine stQ (wantN rfl) (fun t ht => by cases ht <;> decide) ?_
          refine qAlloc rfl rfl (by decide) ze_83 rfl (fun b6 => ?_)
          refine undel (d := 6) rfl ?_
          refine eOneS (i := 3) #[true, true, true, true, true, true, true, true, false, true, false] rfl (HT.one (by kernel_rfl)) (by decide) ?_
          · skip
            refine stA (hx := [.sl (some b10) 0 48 1 []]) (wantN rfl) (fun t ht => by cases ht <;> decide) (.cons (by repeat constructor) .nil) (by repeat constructor) ?_
            refine oApp rfl rfl (by decide) rfl (by repeat constructor) rfl (.inl rfl) el_81 sl_81 rowC_len (by simp; omega) (by simp; omega) (fun g13 k13 => ?_)
            refine undel (d := 13) rfl ?_
            dsimp only [List.cons_append, List.nil_append]
            refine ef HT 8 rfl (pBuild rfl st_83 ze_83 rfl rfl rfl rfl) ?_
            refine eLast ?_
            refine f1 HT 10 rfl ?_
            refine oStB rfl rfl rfl rfl (by repeat constructor) ty_83 rfl (Nat.le_of_ble_eq_true rfl) rfl ?_
            refine fE HT ?_
            clear HT
            refine ⟨(g13, k13, b6, b17), trivial, ?_⟩
            dsimp only
            have hlen : (List.map avCells []).length + (w.safe.map rowC).length = w.safe.length := by simp
            rw [← hlen]
            exact weak_sub ⟨rfl, rfl, rfl, rfl, rfl, trivial⟩ (by repeat constructor)
      · skip
        refine stQ (wantN rfl) (fun t ht => by cases ht <;> decide) ?_
        refine qAlloc rfl rfl (by decide) ze_83 rfl (fun b6 => ?_)
        refine undel (d := 6) rfl ?_
        refine eTwoS (i := 3) (j := 7) #[true, true, true, true, true, true, true, false, false, true, false] #[true, true, true, false, true, true, true, true, false, true, false] rfl rfl (HT.two (by kernel_rfl)) (by decide) (by decide) ?_ ?_
        · skip
          refine stA (hx := [.sl (some b10) 0 48 1 []]) (wantN rfl) (fun t ht => by cases ht <;> decide) (.cons (by repeat constructor) .nil) (by repeat constructor) ?_
          refine oApp rfl rfl (by decide) rfl (by repeat constructor) rfl (.inl rfl) el_81 sl_81 rowC_len (by simp; omega) (by simp; omega) (fun g13 k13 => ?_)
          refine undel (d := 13) rfl ?_
          dsimp only [List.cons_append, List.nil_append]
          refine e1 HT 7 rfl ?_
          refine qMake (n := w.safe.length) (zs := rowC []) rfl rfl (by decide) rfl rfl rfl rfl el_81 ze_48 rfl rfl rep_nils (by omega) (by omega) (fun b17 => ?_)
          refine ef HT 8 rfl (pBuild rfl st_83 ze_83 rfl rfl rfl rfl) ?_
          refine eLast ?_
          refine f1 HT 10 rfl ?_
          refine oStB rfl rfl rfl rfl (by repeat constructor) ty_83 rfl (Nat.le_of_ble_eq_true rfl) rfl ?_
          refine fE HT ?_
          clear HT
          refine ⟨(g13, k13, b6, b17), trivial, ?_⟩
          dsimp only
          have hlen : (List.map avCells []).length + (w.safe.map rowC).length = w.safe.length := by simp
          rw [← hlen]
          exact weak_sub ⟨rfl, rfl, rfl, rfl, rfl, trivial⟩ (by repeat constructor)
        · skip
          refine stQ (wantN rfl) (fun t ht => by cases ht <;> decide) ?_
          refine qMake (n := w.safe.length) (zs := rowC []) rfl rfl (by decide) rfl rfl rfl rfl el_81 ze_48 rfl rfl rep_nils (by omega) (by omega) (fun b17 => ?_)
          refine undel (d := 17) rfl ?_
          refine eOneS (i := 3) #[true, true, true, true, true, true, true, true, false, true, false] rfl (HT.one (by kernel_rfl)) (by decide) ?_
          · skip
            refine stA (hx := [.sl (some b10) 0 48 1 []]) (wantN rfl) (fun t ht => by cases ht <;> decide) (.cons (by repeat constructor) .nil) (by repeat constructor) ?_
            refine oApp rfl rfl (by decide) rfl (by repeat constructor) rfl (.inl rfl) el_81 sl_81 rowC_len (by simp; omega) (by simp; omega) (fun g13 k13 => ?_)
            refine undel (d := 13) rfl ?_
            dsimp only [List.cons_append, List.nil_append]
            refine ef HT 8 rfl (pBuild rfl st_83 ze_83 rfl rfl rfl rfl) ?_
            refine eLast ?_
            refine f1 HT 10 rfl ?_
            refine oStB rfl rfl rfl rfl (by repeat constructor) ty_83 rfl (Nat.le_of_ble_eq_true rfl) rfl ?_
            refine fE HT ?_
            clear HT
            refine ⟨(g13, k13, b6, b17), trivial, ?_⟩
            dsimp only
            have hlen : (List.map avCells []).length + (w.safe.map rowC).length = w.safe.length := by simp
            rw [← hlen]
            exact weak_sub ⟨rfl, rfl, rfl, rfl, rfl, trivial⟩ (by repeat constructor)
    · skip
      refine stQ (wantN rfl) (fun t ht => by cases ht <;> decide) ?_
      refine qMake (n := w.safe.length) (zs := rowC []) rfl rfl (by decide) rfl rfl rfl rfl el_81 ze_48 rfl rfl rep_nils (by omega) (by omega) (fun b17 => ?_)
      refine undel (d := 17) rfl ?_
      refine eTwoS (i := 0) (j := 9) #[true, true, true, false, true, true, true, true, false, false, false] #[false, true, true, false, true, true, true, true, false, true, false] rfl rfl (HT.two (by kernel_rfl)) (by decide) (by decide) ?_ ?_
      · skip
        refine stQ (wantN rfl) (fun t ht => by cases ht <;> decide) ?_
        refine qLit (l := []) rfl rfl (by decide) us_81 ty_48 ze_48 rfl (by decide) (by decide) rfl rfl rfl (fun b10 => ?_)
        refine undel (d := 10) rfl ?_
        refine eTwoS (i := 3) (j := 9) #[true, true, true, true, true, true, true, true, false, false, false] #[true, true, true, false, true, true, true, true, false, true, false] rfl rfl (HT.two (by kernel_rfl)) (by decide) (by decide) ?_ ?_
        · skip
          refine stA (hx := [.sl (some b10) 0 48 1 []]) (wantN rfl) (fun t ht => by cases ht <;> decide) (.cons (by repeat constructor) .nil) (by repeat constructor) ?_
          refine oApp rfl rfl (by decide) rfl (by repeat constructor) rfl (.inl rfl) el_81 sl_81 rowC_len (by simp; omega) (by simp; omega) (fun g13 k13 => ?_)
          refine undel (d := 13) rfl ?_
          dsimp only [List.cons_append, List.nil_append]
          refine ef HT 8 rfl (pBuild rfl st_83 ze_83 rfl rfl rfl rfl) ?_
          refine e1 HT 9 rfl ?_
          refine qAlloc rfl rfl (by decide) ze_83 rfl (fun b6 => ?_)
          refine eLast ?_
          refine f1 HT 10 rfl ?_
          refine oStB rfl rfl rfl rfl (by repeat constructor) ty_83 rfl (Nat.le_of_ble_eq_true rfl) rfl ?_
          refine fE HT ?_
          clear HT
          refine ⟨(g13, k13, b6, b17), trivial, ?_⟩
          dsimp only
          have hlen : (List.map avCells []).length + (w.safe.map rowC).length = w.safe.length := by simp
          rw [← hlen]
          exact weak_sub ⟨rfl, rfl, rfl, rfl, rfl, trivial⟩ (by repeat constructor)
        · skip
          refine stQ (wantN rfl) (fun t ht => by cases ht <;> decide) ?_
          refine qAlloc rfl rfl (by decide) ze_83 rfl (fun b6 => ?_)
          refine undel (d := 6) rfl ?_
          refine eOneS (i := 3) #[true, true, true, true, true, true, true, true, false, true, false] rfl (HT.one (by kernel_rfl)) (by decide) ?_
          · skip
            refine stA (hx := [.sl (some b10) 0 48 1 []]) (wantN rfl) (fun t ht => by cases ht <;> decide) (.cons (by repeat constructor) .nil) (by repeat constructor) ?_
            refine oApp rfl rfl (by decide) rfl (by repeat constructor) rfl (.inl rfl) el_81 sl_81 rowC_len (by simp; omega) (by simp; omega) (fun g13 k13 => ?_)
            refine undel (d := 13) rfl ?_
            dsimp only [List.cons_append, List.nil_append]
            refine ef HT 8 rfl (pBuild rfl st_83 ze_83 rfl rfl rfl rfl) ?_
            refine eLast ?_
            refine f1 HT 10 rfl ?_
            refine oStB rfl rfl rfl rfl (by repeat constructor) ty_83 rfl (Nat.le_of_ble_eq_true rfl) rfl ?_
            refine fE HT ?_
            clear HT
            refine ⟨(g13, k13, b6, b17), trivial, ?_⟩
            dsimp only
            have hlen : (List.map avCells []).length + (w.safe.map rowC).length = w.safe.length := by simp
            rw [← hlen]
            exact weak_sub ⟨rfl, rfl, rfl, rfl, rfl, trivial⟩ (by repeat constructor)
      · skip
        refine stQ (wantN rfl) (fun t ht => by cases ht <;> decide) ?_
        refine qAlloc rfl rfl (by decide) ze_83 rfl (fun b6 => ?_)
        refine undel (d := 6) rfl ?_
        refine e1 HT 0 rfl ?_
        refine qLit (l := []) rfl rfl (by decide) us_81 ty_48 ze_48 rfl (by decide) (by decide) rfl rfl rfl (fun b10 => ?_)
        refine eOneS (i := 3) #[true, true, true, true, true, true, true, true, false, true, false] rfl (HT.one (by kernel_rfl)) (by decide) ?_
        · skip
          refine stA (hx := [.sl (some b10) 0 48 1 []]) (wantN rfl) (fun t ht => by cases ht <;> decide) (.cons (by repeat constructor) .nil) (by repeat constructor) ?_
          refine oApp rfl rfl (by decide) rfl (by repeat constructor) rfl (.inl rfl) el_81 sl_81 rowC_len (by simp; omega) (by simp; omega) (fun g13 k13 => ?_)
          refine undel (d := 13) rfl ?_
          dsimp only [List.cons_append, List.nil_append]
          refine ef HT 8 rfl (pBuild rfl st_83 ze_83 rfl rfl rfl rfl) ?_
          refine eLast ?_
          refine f1 HT 10 rfl ?_
          refine oStB rfl rfl rfl rfl (by repeat constructor) ty_83 rfl (Nat.le_of_ble_eq_true rfl) rfl ?_
          refine fE HT ?_
          clear HT
          refine ⟨(g13, k13, b6, b17), trivial, ?_⟩
          dsimp only
          have hlen : (List.map avCells []).length + (w.safe.map rowC).length = w.safe.length := by simp
          rw [← hlen]
          exact weak_sub ⟨rfl, rfl, rfl, rfl, rfl, trivial⟩ (by repeat constructor)
    · skip
      refine stQ (wantN rfl) (fun t ht => by cases ht <;> decide) ?_
      refine qAlloc rfl rfl (by decide) ze_83 rfl (fun b6 => ?_)
      refine undel (d := 6) rfl ?_
      refine eTwoS (i := 0) (j := 7) #[true, true, true, false, true, true, true, false, false, true, false] #[false, true, true, false, true, true, true, true, false, true, false] rfl rfl (HT.two (by kernel_rfl)) (by decide) (by decide) ?_ ?_
      · skip
        refine stQ (wantN rfl) (fun t ht => by cases ht <;> decide) ?_
        refine qLit (l := []) rfl rfl (by decide) us_81 ty_48 ze_48 rfl (by decide) (by decide) rfl rfl rfl (fun b10 => ?_)
        refine undel (d := 10) rfl ?_
        refine eTwoS (i := 3) (j := 7) #[true, true, true, true, true, true, true, false, false, true, false] #[true, true, true, false, true, true, true, true, false, true, false] rfl rfl (HT.two (by kernel_rfl)) (by decide) (by decide) ?_ ?_
        · skip
          refine stA (hx := [.sl (some b10) 0 48 1 []]) (wantN rfl) (fun t ht => by cases ht <;> decide) (.cons (by repeat constructor) .nil) (by repeat constructor) ?_
          refine oApp rfl rfl (by decide) rfl (by repeat constructor) rfl (.inl rfl) el_81 sl_81 rowC_len (by simp; omega) (by simp; omega) (fun g13 k13 => ?_)
          refine undel (d := 13) rfl ?_
          dsimp only [List.cons_append, List.nil_append]
          refine e1 HT 7 rfl ?_
          refine qMake (n := w.safe.length) (zs := rowC []) rfl rfl (by decide) rfl rfl rfl rfl el_81 ze_48 rfl rfl rep_nils (by omega) (by omega) (fun b17 => ?_)
          refine ef HT 8 rfl (pBuild rfl st_83 ze_83 rfl rfl rfl rfl) ?_
          refine eLast ?_
          refine f1 HT 10 rfl ?_
          refine oStB rfl rfl rfl rfl (by repeat constructor) ty_83 rfl (Nat.le_of_ble_eq_true rfl) rfl ?_
          refine fE HT ?_
          clear HT
          refine ⟨(g13, k13, b6, b17), trivial, ?_⟩
          dsimp only
          have hlen : (List.map avCells []).length + (w.safe.map rowC).length = w.safe.length := by simp
          rw [← hlen]
          exact weak_sub ⟨rfl, rfl, rfl, rfl, rfl, trivial⟩ (by repeat constructor)
        · skip
          refine stQ (wantN rfl) (fun t ht => by cases ht <;> decide) ?_
          refine qMake (n := w.safe.length) (zs := rowC []) rfl rfl (by decide) rfl rfl rfl rfl el_81 ze_48 rfl rfl rep_nils (by omega) (by omega) (fun b17 => ?_)
          refine undel (d := 17) rfl ?_
          refine eOneS (i := 3) #[true, true, true, true, true, true, true, true, false, true, false] rfl (HT.one (by kernel_rfl)) (by decide) ?_
          · skip
            refine stA (hx := [.sl (some b10) 0 48 1 []]) (wantN rfl) (fun t ht => by cases ht <;> decide) (.cons (by repeat constructor) .nil) (by repeat constructor) ?_
            refine oApp rfl rfl (by decide) rfl (by repeat constructor) rfl (.inl rfl) el_81 sl_81 rowC_len (by simp; omega) (by simp; omega) (fun g13 k13 => ?_)
            refine undel (d := 13) rfl ?_
            dsimp only [List.cons_append, List.nil_append]
            refine ef HT 8 rfl (pBuild rfl st_83 ze_83 rfl rfl rfl rfl) ?_
            refine eLast ?_
            refine f1 HT 10 rfl ?_
            refine oStB rfl rfl rfl rfl (by repeat constructor) ty_83 rfl (Nat.le_of_ble_eq_true rfl) rfl ?_
            refine fE HT ?_
            clear HT
            refine ⟨(g13, k13, b6, b17), trivial, ?_⟩
            dsimp only
            have hlen : (List.map avCells []).length + (w.safe.map rowC).length = w.safe.length := by simp
            rw [← hlen]
            exact weak_sub ⟨rfl, rfl, rfl, rfl, rfl, trivial⟩ (by repeat constructor)
      · skip
        refine stQ (wantN rfl) (fun t ht => by cases ht <;> decide) ?_
        refine qMake (n := w.safe.length) (zs := rowC []) rfl rfl (by decide) rfl rfl rfl rfl el_81 ze_48 rfl rfl rep_nils (by omega) (by omega) (fun b17 => ?_)
        refine undel (d := 17) rfl ?_
        refine e1 HT 0 rfl ?_
        refine qLit (l := []) rfl rfl (by decide) us_81 ty_48 ze_48 rfl (by decide) (by decide) rfl rfl rfl (fun b10 => ?_)
        refine eOneS (i := 3) #[true, true, true, true, true, true, true, true, false, true, false] rfl (HT.one (by kernel_rfl)) (by decide) ?_
        · skip
          refine stA (hx := [.sl (some b10) 0 48 1 []]) (wantN rfl) (fun t ht => by cases ht <;> decide) (.cons (by repeat constructor) .nil) (by repeat constructor) ?_
          refine oApp rfl rfl (by decide) rfl (by repeat constructor) rfl (.inl rfl) el_81 sl_81 rowC_len (by simp; omega) (by simp; omega) (fun g13 k13 => ?_)
          refine undel (d := 13) rfl ?_
          dsimp only [List.cons_append, List.nil_append]
          refine ef HT 8 rfl (pBuild rfl st_83 ze_83 rfl rfl rfl rfl) ?_
          refine eLast ?_
          refine f1 HT 10 rfl ?_
          refine oStB rfl rfl rfl rfl (by repeat constructor) ty_83 rfl (Nat.le_of_ble_eq_true rfl) rfl ?_
          refine fE HT ?_
          clear HT
          refine ⟨(g13, k13, b6, b17), trivial, ?_⟩
          dsimp only
          have hlen : (List.map avCells []).length + (w.safe.map rowC).length = w.safe.length := by simp
          rw [← hlen]
          exact weak_sub ⟨rfl, rfl, rfl, rfl, rfl, trivial⟩ (by repeat constructor)
  · rintro ⟨g, c, p, q⟩ _
    skip
    refine aSeq ?_
    refine aSeq ?_
    refine aSome .hd (ne_map hn1) (fun gb hgb => ?_)
    subst hgb
    refine aReg ?_
    refine sp pMa ?_
    refine oNil ?_
    refine aBlock ?_
    refine aLoopI (α := Nat) (fun k => k ≤ w.waiting.length ∧ k ≤ l.length ∧ (crashK w l k).length = w.safe.length) (fun k => ([(1, .sl 2 (l.map tearC)), (2, .v (.pointer (some ⟨b2, 0, none⟩))), (4, .v (.pointer (some ⟨b4, 0, none⟩))), (5, waitA w), (6, .v (.pointer (some ⟨p, 0, none⟩))), (7, .int k)], [.sl (some gb) c 48 1 ((crashK w l k).map rowC), .box p [.v (slV (some gb) w.safe.length c), .v (slV (some q) w.safe.length w.safe.length), .int (-1), .v (.bool false)], .sl (some q) w.safe.length 48 1 (List.replicate w.safe.length (rowC [])), .box b2 (dwC w), .box b4 [.v (.slice none 0 0), .v (.slice none 0 0), .int 0, .v (.bool false)]])) (fun k => w.waiting.length - k) 0 ?_ ?_ ?_
    · skip
      exact ⟨Nat.zero_le _, Nat.zero_le _, rfl⟩
    · skip
      exact weak_env ⟨rfl, rfl, rfl, rfl, rfl, rfl, trivial⟩
    · rintro k ⟨hkw, hkl, hlen⟩
      skip
      refine aSeq ?_
      refine aSeq ?_
      refine aReg ?_
      refine sp pM ?_
      refine sp pM ?_
      refine sp (pLenS' (pLenS rfl rfl sl_103) (waitA_len w)) ?_
      refine sp pB ?_
      refine sp pM ?_
      refine oSplitDec 23 rfl (fun c23 => ?_) (fun c23 => ?_)
      · skip
        refine gp pM ?_
        refine gp pM ?_
        refine gp (by first | exact pLm sl_87 | exact pLs sl_87 | exact pLv sl_87) ?_
        refine gp pB ?_
        refine sp pK ?_
        refine oNil ?_
        refine aCondDec rfl (fun c28 => ?_) (fun c28 => ?_)
        · skip
          refine aSkip ?_
          refine aSeq ?_
          refine aBlock ?_
          obtain ⟨t, ht⟩ : ∃ t, l[k]? = some t := ⟨_, List.getElem?_eq_getElem (by omega)⟩
          obtain ⟨i, hi⟩ : ∃ i, w.waiting[k]? = some i := ⟨_, List.getElem?_eq_getElem (by omega)⟩
          have hil := (waiting_lt hi).1
          obtain ⟨x, hx⟩ : ∃ x, w.waits[i]? = some x := ⟨_, List.getElem?_eq_getElem hil⟩
          obtain ⟨y, hy⟩ : ∃ y, (crashK w l k)[i]? = some y := ⟨_, List.getElem?_eq_getElem (by omega)⟩
          obtain ⟨s0, hs0⟩ : ∃ s0, w.safe[i]? = some s0 := ⟨_, List.getElem?_eq_getElem (by omega)⟩
          refine aCutI (α := List BS) (fun s => s.length = w.safe.length ∧ s = if t.kind = 1 then (crashK w l k).set i (w.waits.getD i []) else crashK w l k) (fun s => ([(1, .sl 2 (l.map tearC)), (2, .v (.pointer (some ⟨b2, 0, none⟩))), (4, .v (.pointer (some ⟨b4, 0, none⟩))), (5, waitA w), (6, .v (.pointer (some ⟨p, 0, none⟩))), (7, .int k)], [.sl (some gb) c 48 1 ((s).map rowC), .box p [.v (slV (some gb) w.safe.length c), .v (slV (some q) w.safe.length w.safe.length), .int (-1), .v (.bool false)], .sl (some q) w.safe.length 48 1 (List.replicate w.safe.length (rowC [])), .box b2 (dwC w), .box b4 [.v (.slice none 0 0), .v (.slice none 0 0), .int 0, .v (.bool false)]])) ?_ ?_
          · skip
            refine aSeq ?_
            refine aReg ?_
            refine sp pM ?_
            refine sp pM ?_
            refine sp (pIdxS rfl rfl rfl es_87 (by omega) (map_get1 (f := tearC) ht)) ?_
            refine sp (by first | exact pFb fd_101_0 | exact pFs fd_101_0) ?_
            refine sr (by first | exact rS1 ty_3 | exact rB1 ty_3) ?_
            refine sp pB ?_
            refine oNil ?_
            refine aCondEq rfl (fun c36 => ?_) (fun c36 => ?_)
            · skip
              refine aDrawT ref03_Crash_r7_t ref03_Crash_r7_b [15] 16 #[false, false, false, false, false, false, false, false, false, false, false, false, false, false, false, false] (by kernel_rfl) rfl rfl (fun HT => ?_)
              refine dp HT 0 rfl (by first | exact pFb fd_83_0 | exact pFs fd_83_0) ?_
              refine dr HT 1 rfl (by first | exact rS1 ty_81 | exact rB1 ty_81) ?_
              refine dp HT 2 rfl pM ?_
              refine dp HT 3 rfl pM ?_
              refine dp HT 4 rfl (pIdxS rfl rfl rfl es_103 (by omega) (waitA_get hi)) ?_
              refine dr HT 5 rfl (by first | exact rS1 ty_3 | exact rB1 ty_3) ?_
              refine dp HT 6 rfl (by first | exact pFb fd_83_1 | exact pFs fd_83_1) ?_
              refine dr HT 7 rfl (by first | exact rS1 ty_81 | exact rB1 ty_81) ?_
              refine dp HT 8 rfl pM ?_
              refine dp HT 9 rfl pM ?_
              refine dp HT 10 rfl (pIdxS rfl rfl rfl es_103 (by omega) (waitA_get hi)) ?_
              refine dr HT 11 rfl (by first | exact rS1 ty_3 | exact rB1 ty_3) ?_
              refine dp HT 12 rfl (pIdxS rfl rfl rfl es_81 (by omega) (map_get1 (f := rowC) hx)) ?_
              refine dr HT 13 rfl (by first | exact rS1 ty_48 | exact rB1 ty_48) ?_
              refine dp HT 14 rfl (pIdxO rfl rfl rfl es_81 (by omega) (by omega)) ?_
              refine dGo ?_
              refine eLast ?_
              refine f1 HT 15 rfl ?_
              refine oStS (i := i) (j := 0) rfl rfl rfl rfl (by repeat constructor) ty_48 rfl (by omega) (map_get1 (f := rowC) hy) (by decide) rfl ?_
              refine fE HT ?_
              clear HT
              first
                | (refine ⟨(crashK w l k).set i x, ⟨by simp [hlen], by rw [if_pos (by assumption), getD_get hx]⟩, ?_⟩
                   rw [List.map_set]
                   exact weak_sub ⟨rfl, rfl, rfl, rfl, rfl, rfl, trivial⟩ (by repeat constructor))
                | (refine ⟨crashK w l k, ⟨hlen, by rw [if_neg (by assumption)]⟩, ?_⟩
                   exact weak_sub ⟨rfl, rfl, rfl, rfl, rfl, rfl, trivial⟩ (by repeat constructor))
            · skip
              refine aSkip ?_
              first
                | (refine ⟨(crashK w l k).set i x, ⟨by simp [hlen], by rw [if_pos (by assumption), getD_get hx]⟩, ?_⟩
                   rw [List.map_set]
                   exact weak_sub ⟨rfl, rfl, rfl, rfl, rfl, rfl, trivial⟩ (by repeat constructor))
                | (refine ⟨crashK w l k, ⟨hlen, by rw [if_neg (by assumption)]⟩, ?_⟩
                   exact weak_sub ⟨rfl, rfl, rfl, rfl, rfl, rfl, trivial⟩ (by repeat constructor))
          · rintro s ⟨hsl, hs⟩
            obtain ⟨y2, hy2⟩ : ∃ y2, s[i]? = some y2 := ⟨_, List.getElem?_eq_getElem (by omega)⟩
            refine aSeq ?_
            refine aReg ?_
            refine sp pM ?_
            refine sp pM ?_
            refine sp (pIdxS rfl rfl rfl es_87 (by omega) (map_get1 (f := tearC) ht)) ?_
            refine sp (by first | exact pFb fd_101_0 | exact pFs fd_101_0) ?_
            refine sr (by first | exact rS1 ty_3 | exact rB1 ty_3) ?_
            refine sp pB ?_
            refine oNil ?_
            refine aCondEq rfl (fun c57 => ?_) (fun c57 => ?_)
            · skip
              refine aDrawT ref03_Crash_r9_t ref03_Crash_r9_b [21] 22 #[false, false, false, false, false, false, false, false, false, false, false, false, false, false, false, false, false, false, false, false, false, false] (by kernel_rfl) rfl rfl (fun HT => ?_)
              refine dp HT 0 rfl (by first | exact pFb fd_83_0 | exact pFs fd_83_0) ?_
              refine dr HT 1 rfl (by first | exact rS1 ty_81 | exact rB1 ty_81) ?_
              refine dp HT 2 rfl pM ?_
              refine dp HT 3 rfl pM ?_
              refine dp HT 4 rfl (pIdxS rfl rfl rfl es_103 (by omega) (waitA_get hi)) ?_
              refine dr HT 5 rfl (by first | exact rS1 ty_3 | exact rB1 ty_3) ?_
              refine dp HT 6 rfl pM ?_
              refine dp HT 7 rfl pM ?_
              refine dp HT 8 rfl (pIdxS rfl rfl rfl es_87 (by omega) (map_get1 (f := tearC) ht)) ?_
              refine dp HT 9 rfl (by first | exact pFb fd_101_1 | exact pFs fd_101_1) ?_
              refine dr HT 10 rfl (by first | exact rS1 ty_48 | exact rB1 ty_48) ?_
              refine dp HT 11 rfl (by first | exact pFb fd_83_0 | exact pFs fd_83_0) ?_
              refine dr HT 12 rfl (by first | exact rS1 ty_81 | exact rB1 ty_81) ?_
              refine dp HT 13 rfl pM ?_
              refine dp HT 14 rfl pM ?_
              refine dp HT 15 rfl (pIdxS rfl rfl rfl es_103 (by omega) (waitA_get hi)) ?_
              refine dr HT 16 rfl (by first | exact rS1 ty_3 | exact rB1 ty_3) ?_
              refine dp HT 17 rfl (pIdxS rfl rfl rfl es_81 (by omega) (map_get1 (f := rowC) hs0)) ?_
              refine dr HT 18 rfl (by first | exact rS1 ty_48 | exact rB1 ty_48) ?_
              refine dGo ?_
              refine e1 HT 19 rfl ?_
              refine qCall0 rfl rfl (by decide) rfl rfl (ref03_Torn t.b s0 (by have := hb t (List.mem_of_getElem? ht); omega) (by have := f.ss s0 (List.mem_of_getElem? hs0); omega)) ?_
              rintro _ _ ⟨g77, c77, rfl, rfl⟩
              refine ep HT 20 rfl (pIdxO rfl rfl rfl es_81 (by omega) (by omega)) ?_
              first | refine fWeak (weak_settle (k := 77) rfl .hd (by simp)) ?_ | skip
              refine eLast ?_
              first | refine fWeak (weak_settle (k := 77) rfl .hd (by simp)) ?_ | skip
              refine f1 HT 21 rfl ?_
              refine oStS (i := i) (j := 0) rfl rfl rfl rfl (by repeat constructor) ty_48 rfl (by omega) (map_get1 (f := rowC) hy2) (by decide) rfl ?_
              refine fE HT ?_
              clear HT
              refine aReg ?_
              refine sp pM ?_
              refine sp pAd ?_
              refine sp pMa ?_
              refine oNil ?_
              have hst := crashK_step hi ht
              refine ⟨k + 1, ⟨by omega, by omega, by rw [hst, crash1_len, hlen]⟩, by show w.waiting.length - (k + 1) < w.waiting.length - k; omega, ?_⟩
              rw [hst]
              first
                | (rw [show crash1 w (crashK w l k) (i, t) = s.set i (torn t.b s0) by rw [crash1, hs, getD_get hs0]; dsimp only; rw [if_neg (by omega), if_pos (by assumption), if_neg (by omega)], List.map_set]
                   exact weak_sub ⟨rfl, rfl, rfl, rfl, rfl, gInt rfl (by simp), trivial⟩ (by repeat constructor))
                | (rw [show crash1 w (crashK w l k) (i, t) = s by rw [crash1, hs]; dsimp only; split; rfl; first | rfl | rw [if_neg (by assumption)]]
                   exact weak_sub ⟨rfl, rfl, rfl, rfl, rfl, gInt rfl (by simp), trivial⟩ (by repeat constructor))
            · skip
              refine aSkip ?_
              refine aReg ?_
              refine sp pM ?_
              refine sp pAd ?_
              refine sp pMa ?_
              refine oNil ?_
              have hst := crashK_step hi ht
              refine ⟨k + 1, ⟨by omega, by omega, by rw [hst, crash1_len, hlen]⟩, by show w.waiting.length - (k + 1) < w.waiting.length - k; omega, ?_⟩
              rw [hst]
              first
                | (rw [show crash1 w (crashK w l k) (i, t) = s.set i (torn t.b s0) by rw [crash1, hs, getD_get hs0]; dsimp only; rw [if_neg (by omega), if_pos (by assumption), if_neg (by omega)], List.map_set]
                   exact weak_sub ⟨rfl, rfl, rfl, rfl, rfl, gInt rfl (by simp), trivial⟩ (by repeat constructor))
                | (rw [show crash1 w (crashK w l k) (i, t) = s by rw [crash1, hs]; dsimp only; split; rfl; first | rfl | rw [if_neg (by assumption)]]
                   exact weak_sub ⟨rfl, rfl, rfl, rfl, rfl, gInt rfl (by simp), trivial⟩ (by repeat constructor))
        · skip
          refine aExit rfl ?_
          refine aSeq ?_
          have hall := crashK_all (w := w) (l := l) (k := k) (by first | exact .inl (by omega) | exact .inr (by omega))
          refine aReg ?_
          refine sr (by first | exact rSW ty_83 rfl | exact rSA ty_83 | exact rBW ty_83 | exact rBA ty_83) ?_
          refine oWeak (weak_deep (k := 79) (b := .agg (dwC (w.crash l))) rfl (.cons .hd (.cons (.tl .hd) .nil)) (.agg (.sl (List.mem_cons_self ..) (by simp [hlen]) (by show Deep _ _ (((w.waiting.zip l).foldl (crash1 w) w.safe).map rowC); rw [← hall]; exact Deep.refl) (.sl (List.mem_cons_of_mem _ (List.mem_cons_self ..)) (by simp) (by show Deep _ _ ((List.replicate w.safe.length ([] : BS)).map rowC); rw [← rows_rep]; exact Deep.refl) (.same (.same (.row .nil))))) (.row .nil))) ?_
          refine sa ?_
          refine oStB rfl rfl rfl rfl (by repeat constructor) ty_83 rfl (Nat.le_of_ble_eq_true rfl) rfl ?_
          refine oNil ?_
          refine aRet ?_
          refine ⟨[.agg (dwC (w.crash l))], [], _, .cons (.cellA (cs := dwC (w.crash l)) rfl (.head _) ty_83) .nil, .nil, rfl, rfl⟩
      · skip
        refine gf ?_
        refine gf ?_
        refine gf ?_
        refine gf ?_
        refine sp pK ?_
        refine oNil ?_
        refine aCondF rfl ?_
        refine aExit rfl ?_
        refine aSeq ?_
        have hall := crashK_all (w := w) (l := l) (k := k) (by first | exact .inl (by omega) | exact .inr (by omega))
        refine aReg ?_
        refine sr (by first | exact rSW ty_83 rfl | exact rSA ty_83 | exact rBW ty_83 | exact rBA ty_83) ?_
        refine oWeak (weak_deep (k := 79) (b := .agg (dwC (w.crash l))) rfl (.cons .hd (.cons (.tl .hd) .nil)) (.agg (.sl (List.mem_cons_self ..) (by simp [hlen]) (by show Deep _ _ (((w.waiting.zip l).foldl (crash1 w) w.safe).map rowC); rw [← hall]; exact Deep.refl) (.sl (List.mem_cons_of_mem _ (List.mem_cons_self ..)) (by simp) (by show Deep _ _ ((List.replicate w.safe.length ([] : BS)).map rowC); rw [← rows_rep]; exact Deep.refl) (.same (.same (.row .nil))))) (.row .nil))) ?_
        refine sa ?_
        refine oStB rfl rfl rfl rfl (by repeat constructor) ty_83 rfl (Nat.le_of_ble_eq_true rfl) rfl ?_
        refine oNil ?_
        refine aRet ?_
        refine ⟨[.agg (dwC (w.crash l))], [], _, .cons (.cellA (cs := dwC (w.crash l)) rfl (.head _) ty_83) .nil, .nil, rfl, rfl⟩

end A
end Go.Proofs.Ytkgemkadebgeoaa
