/- What functions of the program compute: law03b -/
import Derived.Test.YtkgemkadebgeoaaBlaw03
import Derived.Test.YtkgemkadebgeoaaProg
import Derived.KernelRfl
set_option linter.unusedVariables false
set_option linter.unusedSimpArgs false
namespace Go.Proofs.Ytkgemkadebgeoaa
namespace A

theorem fd_89_0 : fieldOf Try.prog 89 0 = some (0, 1, false) := by kernel_rfl
theorem fd_89_1 : fieldOf Try.prog 89 1 = some (1, 1, false) := by kernel_rfl
theorem fd_89_3 : fieldOf Try.prog 89 3 = some (3, 1, false) := by kernel_rfl
theorem act1_0 {w : DW} {a : DAct} (h : a.d = 0) : w.act1 a = w.write a.n (doB a) := by rw [DW.act1, if_pos h]
theorem act1_1 {w : DW} {a : DAct} (h : a.d = 1) : w.act1 a = w.flush := by rw [DW.act1, if_neg (by omega), if_pos h]
theorem act1_2 {w : DW} {a : DAct} (h : a.d = 2) : w.act1 a = (w.arm a.n, 0) := by rw [DW.act1, if_neg (by omega), if_neg (by omega), if_pos h]
theorem act1_3 {w : DW} {a : DAct} (h : a.d = 3) : w.act1 a = (w.crash a.tears, 0) := by rw [DW.act1, if_neg (by omega), if_neg (by omega), if_neg (by omega), if_pos h]
theorem act1_n {w : DW} {a : DAct} (h0 : a.d ≠ 0) (h1 : a.d ≠ 1) (h2 : a.d ≠ 2) (h3 : a.d ≠ 3) : w.act1 a = (w, 0) := by rw [DW.act1, if_neg h0, if_neg h1, if_neg h2, if_neg h3]
theorem actOk_b {a : DAct} (h : actOk a = true) : a.b.length ≤ 600 ∧ a.tears.length ≤ 40 ∧ ∀ t ∈ a.tears, t.b.length ≤ 600 := by
  simp only [actOk, Bool.and_eq_true, decide_eq_true_eq, List.all_eq_true] at h
  exact ⟨h.1, h.2.1, h.2.2⟩
theorem doB_len {a : DAct} (h : a.b.length ≤ 600) : (doB a).length ≤ 600 := by
  unfold doB
  split
  · exact h
  · rw [fill_len]; omega

/- waymarklaw03.Do -/
def law03_Do_r7_T : Bool × List (List Nat × List Nat) := (true, [([], []), ([], []), ([], []), ([2], [2]), ([], []), ([], []), ([4, 5], [4, 5]), ([1, 3, 6, 6], [1, 3, 6]), ([], []), ([7, 8], [7, 8]), ([0, 7, 0], [0]), ([9, 10, 0, 1, 2, 3, 4, 5, 6, 7, 8, 9, 10], [9])])
def law03_Do_r7_B : List Nat := [0, 0, 0, 4, 0, 0, 48, 126, 0, 510, 255, 2047]
theorem law03_Do_r7_t : Go.Proofs.YtkgemkadebgeoaaW.PrintLast.rtab .any (Go.Proofs.YtkgemkadebgeoaaW.PrintLast.opsOf Try.f45 7) = law03_Do_r7_T := by kernel_rfl
theorem law03_Do_r7_b : Go.Proofs.YtkgemkadebgeoaaW.PrintLast.waitsOk law03_Do_r7_T.2 law03_Do_r7_B = true := by kernel_rfl
def law03_Do_r10_T : Bool × List (List Nat × List Nat) := (true, [([], []), ([], []), ([1], [1]), ([], []), ([2, 3], [2, 3]), ([0, 2, 0], [0]), ([4, 5, 0, 1, 2, 3, 4, 5], [4])])
def law03_Do_r10_B : List Nat := [0, 0, 2, 0, 14, 7, 63]
theorem law03_Do_r10_t : Go.Proofs.YtkgemkadebgeoaaW.PrintLast.rtab .any (Go.Proofs.YtkgemkadebgeoaaW.PrintLast.opsOf Try.f45 10) = law03_Do_r10_T := by kernel_rfl
theorem law03_Do_r10_b : Go.Proofs.YtkgemkadebgeoaaW.PrintLast.waitsOk law03_Do_r10_T.2 law03_Do_r10_B = true := by kernel_rfl
set_option maxRecDepth 100000 in
set_option maxHeartbeats 2000000 in
theorem law03_Do (db bs bw n : Nat) (S W : List (Int × BS)) (v w : DW) (r : Rel n S W v) (f : Fit w) (a : DAct) (hok : actOk a = true) (hn : a.n ≤ 9223372036854775807) : Triple Try.prog 45 [.v (.pointer (some ⟨db, 0, none⟩)), .agg (dwC w), AV.agg (dactC a)] [.box db [.int n, .v (.map (some bs)), .v (.map (some bw)), .int v.armed, .v (.bool v.dead)], .map bs (kvA S), .map bw (kvA W)] (fun q h' => q = .tup [.agg (dwC (w.act1 a).1), .v (.bool ((v.act1 a).2 == (w.act1 a).2))] ∧ ∃ S' W', Rel n S' W' (v.act1 a).1 ∧ h' = [.box db [.int n, .v (.map (some bs)), .v (.map (some bw)), .int (v.act1 a).1.armed, .v (.bool (v.act1 a).1.dead)], .map bs (kvA S'), .map bw (kvA W')]) := by
  obtain ⟨hb1, hb2, hb3⟩ := actOk_b hok
  have hdl := doB_len hb1
  refine triple_ofR Try.func45 rfl (by kernel_rfl) rfl (by simp) ?_
  refine aSeq ?_
  refine aReg ?_
  refine sq ?_
  refine qBox rfl rfl (by decide) rfl rfl (fun b4 => ?_)
  refine sq ?_
  refine qBox rfl rfl (by decide) rfl rfl (fun b5 => ?_)
  refine sq ?_
  refine qAlloc rfl rfl (by decide) ze_83 rfl (fun b6 => ?_)
  refine sp pMa ?_
  refine oNil ?_
  refine aSeq ?_
  refine aSeq ?_
  refine aReg ?_
  refine sp (pFb fd_89_0) ?_
  refine sr (rB1 ty_3) ?_
  refine oNil ?_
  refine aBlock ?_
  refine aSeq ?_
  refine aReg ?_
  refine sp pB ?_
  refine sp pMa ?_
  refine oNil ?_
  refine aCondEq rfl (fun c15 => ?_) (fun c15 => ?_)
  · skip
    refine aSeq ?_
    refine aReg ?_
    refine sp (pFb fd_89_2) ?_
    refine sr (rB1 ty_48) ?_
    refine sp pMa ?_
    refine oNil ?_
    refine aCutI (α := Unit) (fun _ => True) (fun _ => ([(0, .v (.pointer (some ⟨db, 0, none⟩))), (4, .v (.pointer (some ⟨b4, 0, none⟩))), (5, .v (.pointer (some ⟨b5, 0, none⟩))), (6, .v (.pointer (some ⟨b6, 0, none⟩))), (8, .sl 1 ((doB a).map by1))], .box b4 (dwC w) :: .box b5 (dactC a) :: .box b6 [.v (.slice none 0 0), .v (.slice none 0 0), .int 0, .v (.bool false)] :: [.box db [.int n, .v (.map (some bs)), .v (.map (some bw)), .int v.armed, .v (.bool v.dead)], .map bs (kvA S), .map bw (kvA W)])) ?_ ?_
    · skip
      refine aSeq ?_
      refine aReg ?_
      refine sp (pFb fd_89_3) ?_
      refine sr (rB1 ty_4) ?_
      refine sp pNo ?_
      refine oNil ?_
      refine aCondNot rfl (fun c21 => ?_) (fun c21 => ?_)
      · skip
        refine aReg ?_
        refine sp (pFb fd_89_2) ?_
        refine sr (rB1 ty_48) ?_
        refine sa ?_
        refine aCall rfl rfl (by decide) rfl rfl .nil (law03_Fill a.b (by omega)) ?_
        rintro _ _ ⟨g24, c24, rfl, rfl⟩
        refine oWeak (weak_settle (k := 24) rfl .hd (by rw [List.length_map, fill_len])) ?_
        refine sp pMa ?_
        refine oNil ?_
        first
          | (rw [show doB a = fill a.b by rw [doB, if_neg (by simpa using c21)]]
             exact ⟨(), trivial, weak_sub ⟨rfl, rfl, rfl, rfl, rfl, trivial⟩ (by repeat constructor)⟩)
          | (rw [show doB a = a.b by rw [doB, if_pos (by simpa using c21)]]
             exact ⟨(), trivial, weak_sub ⟨rfl, rfl, rfl, rfl, rfl, trivial⟩ (by repeat constructor)⟩)
      · skip
        refine aSkip ?_
        first
          | (rw [show doB a = fill a.b by rw [doB, if_neg (by simpa using c21)]]
             exact ⟨(), trivial, weak_sub ⟨rfl, rfl, rfl, rfl, rfl, trivial⟩ (by repeat constructor)⟩)
          | (rw [show doB a = a.b by rw [doB, if_pos (by simpa using c21)]]
             exact ⟨(), trivial, weak_sub ⟨rfl, rfl, rfl, rfl, rfl, trivial⟩ (by repeat constructor)⟩)
    · rintro _ _
      skip
      refine aSeq ?_
      refine aReg ?_
      refine sr (by first | exact rSW ty_83 rfl | exact rSA ty_83 | exact rBW ty_83 | exact rBA ty_83) ?_
      refine sp (by first | exact pFb fd_89_1 | exact pFs fd_89_1) ?_
      refine sr (by first | exact rS1 ty_3 | exact rB1 ty_3) ?_
      refine sp pM ?_
      refine sq ?_
      refine qCall0 rfl rfl (by decide) rfl rfl (ref03_Write w a.n (doB a) f f.a1 (by omega)) ?_
      rintro _ _ ⟨rfl, rfl⟩
      refine sp pM ?_
      refine sp pX ?_
      refine sp pX ?_
      refine sq ?_
      refine qAlloc rfl rfl (by decide) ze_83 rfl (fun b9 => ?_)
      refine sa ?_
      refine oStB rfl rfl rfl rfl (by repeat constructor) ty_83 rfl (Nat.le_of_ble_eq_true rfl) rfl ?_
      refine sp pMa ?_
      refine oNil ?_
      refine aSeq ?_
      refine aDrawS (h1 := [.box b9 _, .box b5 _]) law03_Do_r7_t law03_Do_r7_b [10] 12 #[false, false, false, false, false, false, false, false, false, false, false, false] (by kernel_rfl) rfl rfl (.cons (by repeat constructor) (.cons (by repeat constructor) .nil)) (fun HT => ?_)
      refine er HT 0 rfl (by first | exact rBW ty_83 | exact rBA ty_83) ?_
      refine ep HT 1 rfl pM ?_
      refine ep HT 2 rfl (by first | exact pFb fd_89_1 | exact pFs fd_89_1) ?_
      refine er HT 3 rfl (by first | exact rS1 ty_3 | exact rB1 ty_3) ?_
      refine ep HT 5 rfl pM ?_
      refine ep HT 8 rfl pM ?_
      refine e1 HT 4 rfl ?_
      refine qLit (l := []) rfl rfl (by decide) us_48 ty_5 ze_5 rfl (by decide) (by decide) rfl rfl rfl (fun b37 => ?_)
      refine eOneS (i := 6) #[true, true, true, true, true, true, true, false, true, false, false, false] rfl (HT.one (by kernel_rfl)) (by decide) ?_
      · skip
        refine stA (hx := [.sl (some b37) 0 5 1 []]) (wantN rfl) (fun t ht => by cases ht <;> decide) (.cons (by repeat constructor) .nil) (by repeat constructor) ?_
        refine oApp rfl rfl (by decide) rfl (by repeat constructor) rfl (.inl rfl) el_48 sl_48 by1_len (by simp; omega) (by simp; omega) (fun g39 k39 => ?_)
        refine undel (d := 39) rfl ?_
        dsimp only [List.cons_append, List.nil_append]
        refine eSettle (k := 39) rfl .hd (by simp) ?_
        refine eOneS (i := 7) #[true, true, true, true, true, true, true, true, true, false, false, false] rfl (HT.one (by kernel_rfl)) (by decide) ?_
        · skip
          refine stA (hx := [.box db [.int n, .v (.map (some bs)), .v (.map (some bw)), .int v.armed, .v (.bool v.dead)], .map bs (kvA S), .map bw (kvA W)]) (wantN rfl) (fun t ht => by cases ht <;> decide) (.cons (by repeat constructor) (.cons (by repeat constructor) (.cons (by repeat constructor) .nil))) (by repeat constructor) ?_
          refine aCall rfl rfl (by decide) rfl rfl tk_refl (disk_Write db bs bw n a.n (doB a) S W v r) ?_
          rintro _ _ ⟨rfl, W', r', rfl⟩
          refine undel (d := 40) rfl ?_
          dsimp only [List.cons_append, List.nil_append]
          refine ef HT 9 rfl pB ?_
          refine eLast ?_
          refine f1 HT 10 rfl ?_
          refine oStB rfl rfl rfl rfl (by repeat constructor) ty_83 rfl (Nat.le_of_ble_eq_true rfl) rfl ?_
          refine fp HT 11 rfl pMa ?_
          refine fE HT ?_
          clear HT
          refine aRet ?_
          rw [act1_0 c15, act1_0 c15]
          refine ⟨[.agg (dwC (w.write a.n (doB a)).1), .v (.bool ((v.write a.n (doB a)).2 == (w.write a.n (doB a)).2))], _, _, .cons (.cellA (cs := dwC (w.write a.n (doB a)).1) rfl (by first | exact .head _ | exact .tail _ (.head _) | exact .tail _ (.tail _ (.head _)) | exact .tail _ (.tail _ (.tail _ (.head _))) | exact .tail _ (.tail _ (.tail _ (.tail _ (.head _)))) | exact .tail _ (.tail _ (.tail _ (.tail _ (.tail _ (.head _))))) | exact .tail _ (.tail _ (.tail _ (.tail _ (.tail _ (.tail _ (.head _)))))) | exact .tail _ (.tail _ (.tail _ (.tail _ (.tail _ (.tail _ (.tail _ (.head _)))))))) ty_83) (.cons (.tmp rfl) .nil), (.cons (by repeat constructor) (.cons (by repeat constructor) (.cons (by repeat constructor) .nil)) : Tk _ [.box db [.int n, .v (.map (some bs)), .v (.map (some bw)), .int (v.write a.n (doB a)).1.armed, .v (.bool (v.write a.n (doB a)).1.dead)], .map bs (kvA S), .map bw (kvA W')] _), rfl, S, W', r', rfl⟩
  · skip
    refine aSeq ?_
    refine aReg ?_
    refine sp pB ?_
    refine sp pMa ?_
    refine oNil ?_
    refine aCondEq rfl (fun c43 => ?_) (fun c43 => ?_)
    · skip
      refine aSeq ?_
      refine aReg ?_
      refine sr (by first | exact rBW ty_83 | exact rBA ty_83) ?_
      refine sq ?_
      refine qCall0 rfl rfl (by decide) rfl rfl (ref03_Flush w f f.a1) ?_
      rintro _ _ ⟨rfl, rfl⟩
      refine sp pM ?_
      refine sp pX ?_
      refine sp pX ?_
      refine sq ?_
      refine qAlloc rfl rfl (by decide) ze_83 rfl (fun b11 => ?_)
      refine sa ?_
      refine oStB rfl rfl rfl rfl (by repeat constructor) ty_83 rfl (Nat.le_of_ble_eq_true rfl) rfl ?_
      refine sp pMa ?_
      refine oNil ?_
      refine aSeq ?_
      refine aDrawS (h1 := [.box b11 _]) law03_Do_r10_t law03_Do_r10_b [5] 7 #[false, false, false, false, false, false, false] (by kernel_rfl) rfl rfl (.cons (by repeat constructor) .nil) (fun HT => ?_)
      refine er HT 0 rfl (by first | exact rBW ty_83 | exact rBA ty_83) ?_
      refine ep HT 1 rfl pM ?_
      refine ep HT 3 rfl pM ?_
      refine eOneS (i := 2) #[true, true, true, true, false, false, false] rfl (HT.one (by kernel_rfl)) (by decide) ?_
      · skip
        refine stA (hx := [.box db [.int n, .v (.map (some bs)), .v (.map (some bw)), .int v.armed, .v (.bool v.dead)], .map bs (kvA S), .map bw (kvA W)]) (wantN rfl) (fun t ht => by cases ht <;> decide) (.cons (by repeat constructor) (.cons (by repeat constructor) (.cons (by repeat constructor) .nil))) (by repeat constructor) ?_
        refine aCall rfl rfl (by decide) rfl rfl tk_refl (disk_Flush db bs bw n S W v r) ?_
        rintro _ _ ⟨rfl, S', W', r', rfl⟩
        refine undel (d := 52) rfl ?_
        dsimp only [List.cons_append, List.nil_append]
        refine ef HT 4 rfl pB ?_
        refine eLast ?_
        refine f1 HT 5 rfl ?_
        refine oStB rfl rfl rfl rfl (by repeat constructor) ty_83 rfl (Nat.le_of_ble_eq_true rfl) rfl ?_
        refine fp HT 6 rfl pMa ?_
        refine fE HT ?_
        clear HT
        refine aRet ?_
        rw [act1_1 c43, act1_1 c43]
        refine ⟨[.agg (dwC w.flush.1), .v (.bool (v.flush.2 == w.flush.2))], _, _, .cons (.cellA (cs := dwC w.flush.1) rfl (by first | exact .head _ | exact .tail _ (.head _) | exact .tail _ (.tail _ (.head _)) | exact .tail _ (.tail _ (.tail _ (.head _))) | exact .tail _ (.tail _ (.tail _ (.tail _ (.head _)))) | exact .tail _ (.tail _ (.tail _ (.tail _ (.tail _ (.head _))))) | exact .tail _ (.tail _ (.tail _ (.tail _ (.tail _ (.tail _ (.head _)))))) | exact .tail _ (.tail _ (.tail _ (.tail _ (.tail _ (.tail _ (.tail _ (.head _)))))))) ty_83) (.cons (.tmp rfl) .nil), (.cons (by repeat constructor) (.cons (by repeat constructor) (.cons (by repeat constructor) .nil)) : Tk _ [.box db [.int n, .v (.map (some bs)), .v (.map (some bw)), .int v.flush.1.armed, .v (.bool v.flush.1.dead)], .map bs (kvA S'), .map bw (kvA W')] _), rfl, S', W', r', rfl⟩
    · skip
      refine aSeq ?_
      refine aReg ?_
      refine sp pB ?_
      refine sp pMa ?_
      refine oNil ?_
      refine aCondEq rfl (fun c55 => ?_) (fun c55 => ?_)
      · skip
        refine aSeq ?_
        refine aReg ?_
        refine sp pM ?_
        refine sp (pFb fd_89_1) ?_
        refine sr (rB1 ty_3) ?_
        refine sa ?_
        refine aCall rfl rfl (by decide) rfl rfl (.cons (by repeat constructor) .nil) (disk_Arm _ _ _ _ _ _ _) ?_
        rintro _ _ ⟨rfl, rfl⟩
        refine oNil ?_
        refine aSeq ?_
        refine aReg ?_
        refine sp (pFb fd_89_1) ?_
        refine sr (rB1 ty_3) ?_
        refine sp (pFb fd_83_2) ?_
        refine sa ?_
        refine oStB rfl rfl rfl rfl (by repeat constructor) ty_3 rfl (Nat.le_of_ble_eq_true rfl) rfl ?_
        refine oNil ?_
        refine aSeq ?_
        refine aReg ?_
        refine sp (pFb fd_89_1) ?_
        refine sr (rB1 ty_3) ?_
        refine sp pB ?_
        refine oNil ?_
        refine aCondDec rfl (fun c66 => ?_) (fun c66 => ?_)
        · skip
          refine aReg ?_
          refine sp (pFb fd_83_2) ?_
          refine sa ?_
          refine oStB rfl rfl rfl rfl (by repeat constructor) ty_3 rfl (Nat.le_of_ble_eq_true rfl) rfl ?_
          refine oNil ?_
          refine aSeq ?_
          refine aReg ?_
          refine sr (by first | exact rBW ty_83 | exact rBA ty_83) ?_
          refine sa ?_
          refine oStB rfl rfl rfl rfl (by repeat constructor) ty_83 rfl (Nat.le_of_ble_eq_true rfl) rfl ?_
          refine sp pMa ?_
          refine oNil ?_
          refine aRet ?_
          first
            | (have hz : w.arm a.n = ⟨w.safe, w.waits, -1, w.dead⟩ := by rw [DW.arm, if_pos (by assumption)]
               rw [act1_2 (by assumption), act1_2 (by assumption), hz]
               refine ⟨[.agg (dwC ⟨w.safe, w.waits, -1, w.dead⟩), .v (.bool true)], _, _, .cons (.cellA (cs := dwC ⟨w.safe, w.waits, -1, w.dead⟩) rfl (by first | exact .head _ | exact .tail _ (.head _) | exact .tail _ (.tail _ (.head _)) | exact .tail _ (.tail _ (.tail _ (.head _))) | exact .tail _ (.tail _ (.tail _ (.tail _ (.head _)))) | exact .tail _ (.tail _ (.tail _ (.tail _ (.tail _ (.head _))))) | exact .tail _ (.tail _ (.tail _ (.tail _ (.tail _ (.tail _ (.head _)))))) | exact .tail _ (.tail _ (.tail _ (.tail _ (.tail _ (.tail _ (.tail _ (.head _)))))))) ty_83) (.cons (.tmp rfl) .nil), (.cons (by repeat constructor) (.cons (by repeat constructor) (.cons (by repeat constructor) .nil)) : Tk _ [.box db [.int n, .v (.map (some bs)), .v (.map (some bw)), .int (v.arm a.n).armed, .v (.bool (v.arm a.n).dead)], .map bs (kvA S), .map bw (kvA W)] _), rfl, S, W, r.arm hn, rfl⟩)
            | (have hz : w.arm a.n = ⟨w.safe, w.waits, a.n, w.dead⟩ := by rw [DW.arm, if_neg (by assumption)]
               rw [act1_2 (by assumption), act1_2 (by assumption), hz]
               refine ⟨[.agg (dwC ⟨w.safe, w.waits, a.n, w.dead⟩), .v (.bool true)], _, _, .cons (.cellA (cs := dwC ⟨w.safe, w.waits, a.n, w.dead⟩) rfl (by first | exact .head _ | exact .tail _ (.head _) | exact .tail _ (.tail _ (.head _)) | exact .tail _ (.tail _ (.tail _ (.head _))) | exact .tail _ (.tail _ (.tail _ (.tail _ (.head _)))) | exact .tail _ (.tail _ (.tail _ (.tail _ (.tail _ (.head _))))) | exact .tail _ (.tail _ (.tail _ (.tail _ (.tail _ (.tail _ (.head _)))))) | exact .tail _ (.tail _ (.tail _ (.tail _ (.tail _ (.tail _ (.tail _ (.head _)))))))) ty_83) (.cons (.tmp rfl) .nil), (.cons (by repeat constructor) (.cons (by repeat constructor) (.cons (by repeat constructor) .nil)) : Tk _ [.box db [.int n, .v (.map (some bs)), .v (.map (some bw)), .int (v.arm a.n).armed, .v (.bool (v.arm a.n).dead)], .map bs (kvA S), .map bw (kvA W)] _), rfl, S, W, r.arm hn, rfl⟩)
            | (rw [act1_n (by assumption) (by assumption) (by assumption) (by assumption), act1_n (by assumption) (by assumption) (by assumption) (by assumption)]
               refine ⟨[.agg (dwC w), .v (.bool true)], _, _, .cons (.cellA (cs := dwC w) rfl (by first | exact .head _ | exact .tail _ (.head _) | exact .tail _ (.tail _ (.head _)) | exact .tail _ (.tail _ (.tail _ (.head _))) | exact .tail _ (.tail _ (.tail _ (.tail _ (.head _)))) | exact .tail _ (.tail _ (.tail _ (.tail _ (.tail _ (.head _))))) | exact .tail _ (.tail _ (.tail _ (.tail _ (.tail _ (.tail _ (.head _)))))) | exact .tail _ (.tail _ (.tail _ (.tail _ (.tail _ (.tail _ (.tail _ (.head _)))))))) ty_83) (.cons (.tmp rfl) .nil), (.cons (by repeat constructor) (.cons (by repeat constructor) (.cons (by repeat constructor) .nil)) : Tk _ [.box db [.int n, .v (.map (some bs)), .v (.map (some bw)), .int v.armed, .v (.bool v.dead)], .map bs (kvA S), .map bw (kvA W)] _), rfl, S, W, r, rfl⟩)
        · skip
          refine aSkip ?_
          refine aSeq ?_
          refine aReg ?_
          refine sr (by first | exact rBW ty_83 | exact rBA ty_83) ?_
          refine sa ?_
          refine oStB rfl rfl rfl rfl (by repeat constructor) ty_83 rfl (Nat.le_of_ble_eq_true rfl) rfl ?_
          refine sp pMa ?_
          refine oNil ?_
          refine aRet ?_
          first
            | (have hz : w.arm a.n = ⟨w.safe, w.waits, -1, w.dead⟩ := by rw [DW.arm, if_pos (by assumption)]
               rw [act1_2 (by assumption), act1_2 (by assumption), hz]
               refine ⟨[.agg (dwC ⟨w.safe, w.waits, -1, w.dead⟩), .v (.bool true)], _, _, .cons (.cellA (cs := dwC ⟨w.safe, w.waits, -1, w.dead⟩) rfl (by first | exact .head _ | exact .tail _ (.head _) | exact .tail _ (.tail _ (.head _)) | exact .tail _ (.tail _ (.tail _ (.head _))) | exact .tail _ (.tail _ (.tail _ (.tail _ (.head _)))) | exact .tail _ (.tail _ (.tail _ (.tail _ (.tail _ (.head _))))) | exact .tail _ (.tail _ (.tail _ (.tail _ (.tail _ (.tail _ (.head _)))))) | exact .tail _ (.tail _ (.tail _ (.tail _ (.tail _ (.tail _ (.tail _ (.head _)))))))) ty_83) (.cons (.tmp rfl) .nil), (.cons (by repeat constructor) (.cons (by repeat constructor) (.cons (by repeat constructor) .nil)) : Tk _ [.box db [.int n, .v (.map (some bs)), .v (.map (some bw)), .int (v.arm a.n).armed, .v (.bool (v.arm a.n).dead)], .map bs (kvA S), .map bw (kvA W)] _), rfl, S, W, r.arm hn, rfl⟩)
            | (have hz : w.arm a.n = ⟨w.safe, w.waits, a.n, w.dead⟩ := by rw [DW.arm, if_neg (by assumption)]
               rw [act1_2 (by assumption), act1_2 (by assumption), hz]
               refine ⟨[.agg (dwC ⟨w.safe, w.waits, a.n, w.dead⟩), .v (.bool true)], _, _, .cons (.cellA (cs := dwC ⟨w.safe, w.waits, a.n, w.dead⟩) rfl (by first | exact .head _ | exact .tail _ (.head _) | exact .tail _ (.tail _ (.head _)) | exact .tail _ (.tail _ (.tail _ (.head _))) | exact .tail _ (.tail _ (.tail _ (.tail _ (.head _)))) | exact .tail _ (.tail _ (.tail _ (.tail _ (.tail _ (.head _))))) | exact .tail _ (.tail _ (.tail _ (.tail _ (.tail _ (.tail _ (.head _)))))) | exact .tail _ (.tail _ (.tail _ (.tail _ (.tail _ (.tail _ (.tail _ (.head _)))))))) ty_83) (.cons (.tmp rfl) .nil), (.cons (by repeat constructor) (.cons (by repeat constructor) (.cons (by repeat constructor) .nil)) : Tk _ [.box db [.int n, .v (.map (some bs)), .v (.map (some bw)), .int (v.arm a.n).armed, .v (.bool (v.arm a.n).dead)], .map bs (kvA S), .map bw (kvA W)] _), rfl, S, W, r.arm hn, rfl⟩)
            | (rw [act1_n (by assumption) (by assumption) (by assumption) (by assumption), act1_n (by assumption) (by assumption) (by assumption) (by assumption)]
               refine ⟨[.agg (dwC w), .v (.bool true)], _, _, .cons (.cellA (cs := dwC w) rfl (by first | exact .head _ | exact .tail _ (.head _) | exact .tail _ (.tail _ (.head _)) | exact .tail _ (.tail _ (.tail _ (.head _))) | exact .tail _ (.tail _ (.tail _ (.tail _ (.head _)))) | exact .tail _ (.tail _ (.tail _ (.tail _ (.tail _ (.head _))))) | exact .tail _ (.tail _ (.tail _ (.tail _ (.tail _ (.tail _ (.head _)))))) | exact .tail _ (.tail _ (.tail _ (.tail _ (.tail _ (.tail _ (.tail _ (.head _)))))))) ty_83) (.cons (.tmp rfl) .nil), (.cons (by repeat constructor) (.cons (by repeat constructor) (.cons (by repeat constructor) .nil)) : Tk _ [.box db [.int n, .v (.map (some bs)), .v (.map (some bw)), .int v.armed, .v (.bool v.dead)], .map bs (kvA S), .map bw (kvA W)] _), rfl, S, W, r, rfl⟩)
      · skip
        refine aSeq ?_
        refine aReg ?_
        refine sp pB ?_
        refine sp pMa ?_
        refine oNil ?_
        refine aCondEq rfl (fun c68 => ?_) (fun c68 => ?_)
        · skip
          refine aSeq ?_
          refine aReg ?_
          refine sp pM ?_
          refine sp (pFb fd_89_4) ?_
          refine sr (rB1 ty_87) ?_
          refine sa ?_
          refine aCall rfl rfl (by decide) rfl rfl (.cons (by repeat constructor) (.cons (by repeat constructor) (.cons (by repeat constructor) .nil))) (disk_Crash db bs bw n S W v r a.tears) ?_
          rintro _ _ ⟨rfl, S', r', rfl⟩
          refine oNil ?_
          refine aSeq ?_
          refine aReg ?_
          refine sr (by first | exact rBW ty_83 | exact rBA ty_83) ?_
          refine sp (pFb fd_89_4) ?_
          refine sr (rB1 ty_87) ?_
          refine sq ?_
          refine qCall0 rfl rfl (by decide) rfl rfl (ref03_Crash w f a.tears (by omega) (fun t ht => by have := hb3 t ht; omega)) ?_
          rintro _ _ ⟨rfl, rfl⟩
          refine sa ?_
          refine oStB rfl rfl rfl rfl (by repeat constructor) ty_83 rfl (Nat.le_of_ble_eq_true rfl) rfl ?_
          refine sp pMa ?_
          refine oNil ?_
          refine aRet ?_
          rw [act1_3 c68, act1_3 c68]
          refine ⟨[.agg (dwC (w.crash a.tears)), .v (.bool true)], _, _, .cons (.cellA (cs := dwC (w.crash a.tears)) rfl (by first | exact .head _ | exact .tail _ (.head _) | exact .tail _ (.tail _ (.head _)) | exact .tail _ (.tail _ (.tail _ (.head _))) | exact .tail _ (.tail _ (.tail _ (.tail _ (.head _)))) | exact .tail _ (.tail _ (.tail _ (.tail _ (.tail _ (.head _))))) | exact .tail _ (.tail _ (.tail _ (.tail _ (.tail _ (.tail _ (.head _)))))) | exact .tail _ (.tail _ (.tail _ (.tail _ (.tail _ (.tail _ (.tail _ (.head _)))))))) ty_83) (.cons (.tmp rfl) .nil), (.cons (by repeat constructor) (.cons (by repeat constructor) (.cons (by repeat constructor) .nil)) : Tk _ [.box db [.int n, .v (.map (some bs)), .v (.map (some bw)), .int (v.crash a.tears).armed, .v (.bool (v.crash a.tears).dead)], .map bs (kvA S'), .map bw (kvA [])] _), rfl, S', [], r', rfl⟩
        · skip
          refine aSkip ?_
          refine aSeq ?_
          refine aReg ?_
          refine sr (by first | exact rBW ty_83 | exact rBA ty_83) ?_
          refine sa ?_
          refine oStB rfl rfl rfl rfl (by repeat constructor) ty_83 rfl (Nat.le_of_ble_eq_true rfl) rfl ?_
          refine sp pMa ?_
          refine oNil ?_
          refine aRet ?_
          first
            | (have hz : w.arm a.n = ⟨w.safe, w.waits, -1, w.dead⟩ := by rw [DW.arm, if_pos (by assumption)]
               rw [act1_2 (by assumption), act1_2 (by assumption), hz]
               refine ⟨[.agg (dwC ⟨w.safe, w.waits, -1, w.dead⟩), .v (.bool true)], _, _, .cons (.cellA (cs := dwC ⟨w.safe, w.waits, -1, w.dead⟩) rfl (by first | exact .head _ | exact .tail _ (.head _) | exact .tail _ (.tail _ (.head _)) | exact .tail _ (.tail _ (.tail _ (.head _))) | exact .tail _ (.tail _ (.tail _ (.tail _ (.head _)))) | exact .tail _ (.tail _ (.tail _ (.tail _ (.tail _ (.head _))))) | exact .tail _ (.tail _ (.tail _ (.tail _ (.tail _ (.tail _ (.head _)))))) | exact .tail _ (.tail _ (.tail _ (.tail _ (.tail _ (.tail _ (.tail _ (.head _)))))))) ty_83) (.cons (.tmp rfl) .nil), (.cons (by repeat constructor) (.cons (by repeat constructor) (.cons (by repeat constructor) .nil)) : Tk _ [.box db [.int n, .v (.map (some bs)), .v (.map (some bw)), .int (v.arm a.n).armed, .v (.bool (v.arm a.n).dead)], .map bs (kvA S), .map bw (kvA W)] _), rfl, S, W, r.arm hn, rfl⟩)
            | (have hz : w.arm a.n = ⟨w.safe, w.waits, a.n, w.dead⟩ := by rw [DW.arm, if_neg (by assumption)]
               rw [act1_2 (by assumption), act1_2 (by assumption), hz]
               refine ⟨[.agg (dwC ⟨w.safe, w.waits, a.n, w.dead⟩), .v (.bool true)], _, _, .cons (.cellA (cs := dwC ⟨w.safe, w.waits, a.n, w.dead⟩) rfl (by first | exact .head _ | exact .tail _ (.head _) | exact .tail _ (.tail _ (.head _)) | exact .tail _ (.tail _ (.tail _ (.head _))) | exact .tail _ (.tail _ (.tail _ (.tail _ (.head _)))) | exact .tail _ (.tail _ (.tail _ (.tail _ (.tail _ (.head _))))) | exact .tail _ (.tail _ (.tail _ (.tail _ (.tail _ (.tail _ (.head _)))))) | exact .tail _ (.tail _ (.tail _ (.tail _ (.tail _ (.tail _ (.tail _ (.head _)))))))) ty_83) (.cons (.tmp rfl) .nil), (.cons (by repeat constructor) (.cons (by repeat constructor) (.cons (by repeat constructor) .nil)) : Tk _ [.box db [.int n, .v (.map (some bs)), .v (.map (some bw)), .int (v.arm a.n).armed, .v (.bool (v.arm a.n).dead)], .map bs (kvA S), .map bw (kvA W)] _), rfl, S, W, r.arm hn, rfl⟩)
            | (rw [act1_n (by assumption) (by assumption) (by assumption) (by assumption), act1_n (by assumption) (by assumption) (by assumption) (by assumption)]
               refine ⟨[.agg (dwC w), .v (.bool true)], _, _, .cons (.cellA (cs := dwC w) rfl (by first | exact .head _ | exact .tail _ (.head _) | exact .tail _ (.tail _ (.head _)) | exact .tail _ (.tail _ (.tail _ (.head _))) | exact .tail _ (.tail _ (.tail _ (.tail _ (.head _)))) | exact .tail _ (.tail _ (.tail _ (.tail _ (.tail _ (.head _))))) | exact .tail _ (.tail _ (.tail _ (.tail _ (.tail _ (.tail _ (.head _)))))) | exact .tail _ (.tail _ (.tail _ (.tail _ (.tail _ (.tail _ (.tail _ (.head _)))))))) ty_83) (.cons (.tmp rfl) .nil), (.cons (by repeat constructor) (.cons (by repeat constructor) (.cons (by repeat constructor) .nil)) : Tk _ [.box db [.int n, .v (.map (some bs)), .v (.map (some bw)), .int v.armed, .v (.bool v.dead)], .map bs (kvA S), .map bw (kvA W)] _), rfl, S, W, r, rfl⟩)

end A
end Go.Proofs.Ytkgemkadebgeoaa
