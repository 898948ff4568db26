/- What functions of the program compute: law03e -/
import Derived.Test.YtkgemkadebgeoaaBlaw03d
import Derived.Test.YtkgemkadebgeoaaProg
import Derived.KernelRfl
set_option linter.unusedVariables false
set_option linter.unusedSimpArgs false
namespace Go.Proofs.Ytkgemkadebgeoaa
namespace A

theorem ty_89 : tyOf Try.prog 89 = some (5, true) := by kernel_rfl
theorem light_len {l : List DAct} (h : lightB l = true) : l.length ≤ 40 := by simp only [lightB, Bool.and_eq_true, decide_eq_true_eq] at h; exact h.1
theorem light_at {l : List DAct} (h : lightB l = true) {i : Nat} {a : DAct} (ha : l[i]? = some a) : actOk a = true := by
  simp only [lightB, Bool.and_eq_true, List.all_eq_true] at h
  exact h.2 a (List.mem_of_getElem? ha)
theorem disk_New1 (n : Int) : Triple Try.prog 43 [.int n] [] (fun q h' => ∃ (x : Value) (e : Int), q = .tup [.v x, .int e] ∧ (¬ (1 ≤ n ∧ n ≤ 1024) → x = .pointer none ∧ e = 1 ∧ h' = []) ∧ ((1 ≤ n ∧ n ≤ 1024) → ∃ db bs bw, x = .pointer (some ⟨db, 0, none⟩) ∧ e = 0 ∧ h' = [.box db [.int n, .v (.map (some bs)), .v (.map (some bw)), .int (-1), .v (.bool false)], .map bs [], .map bw []])) :=
  (disk_New0 n).mono fun q h' hq => by
    rcases hq with ⟨h, rfl, rfl⟩ | ⟨h, db, bs, bw, rfl, rfl⟩
    · exact ⟨_, _, rfl, fun _ => ⟨rfl, rfl, rfl⟩, fun h2 => absurd h2 h⟩
    · exact ⟨_, _, rfl, fun h2 => absurd h h2, fun _ => ⟨db, bs, bw, rfl, rfl, rfl⟩⟩
theorem read_n (w : DW) {n : Nat} (h : w.safe.length = n) : (w.read n).2 = (if w.dead then 7 else 1) := by
  unfold DW.read
  cases w.dead
  · rw [if_neg (by decide), if_pos (by omega)]; rfl
  · rfl
theorem read_m (w : DW) : (w.read (-1)).2 = (if w.dead then 7 else 1) := by
  unfold DW.read
  cases w.dead
  · rw [if_neg (by decide), if_pos (by omega)]; rfl
  · rfl

/- waymarklaw03.DiskActs -/
def law03_DiskActs_r12_T : Bool × List (List Nat × List Nat) := (true, [([], []), ([], []), ([], []), ([], []), ([2, 3], [2, 3]), ([4], [4]), ([0, 1, 5], [0, 1, 5]), ([6], [6]), ([7], [7]), ([7], [7]), ([], []), ([10, 8, 6, 0, 1, 2, 3, 4, 5, 6, 7, 8, 10], [8, 10]), ([9, 11, 0, 1, 2, 3, 4, 5, 6, 7, 8, 9, 10, 11], [9])])
def law03_DiskActs_r12_B : List Nat := [0, 0, 0, 0, 12, 28, 63, 127, 255, 255, 0, 1535, 4095]
theorem law03_DiskActs_r12_t : Go.Proofs.YtkgemkadebgeoaaW.PrintLast.rtab .any (Go.Proofs.YtkgemkadebgeoaaW.PrintLast.opsOf Try.f10 12) = law03_DiskActs_r12_T := by kernel_rfl
theorem law03_DiskActs_r12_b : Go.Proofs.YtkgemkadebgeoaaW.PrintLast.waitsOk law03_DiskActs_r12_T.2 law03_DiskActs_r12_B = true := by kernel_rfl
set_option maxRecDepth 100000 in
set_option maxHeartbeats 2000000 in
theorem law03_DiskActs (n : Int) (l : List DAct) (hl : l.length ≤ 9223372036854775807) (ha : ∀ a ∈ l, a.n ≤ 9223372036854775807) : Triple Try.prog 10 [.int n, .sl 5 (l.map dactC)] [] (fun q h' => q = .v (.bool true) ∧ h' = []) := by
  refine triple_of Try.func10 rfl (by kernel_rfl) rfl (by simp) ?_
  refine aSeq ?_
  refine aReg ?_
  refine sp pMa ?_
  refine oNil ?_
  refine aSeq ?_
  refine aSeq ?_
  refine aReg ?_
  refine sp pM ?_
  refine sq ?_
  refine qCallV rfl rfl (by decide) rfl rfl (lents_refl _) (law03_Light l hl) ?_
  refine sp pNo ?_
  refine sp pM ?_
  refine oSplitNot 18 rfl (fun c18 => ?_) (fun c18 => ?_)
  · skip
    refine gf ?_
    refine gf ?_
    refine gf ?_
    refine gf ?_
    refine gf ?_
    refine gf ?_
    refine sp pK ?_
    refine oNil ?_
    refine aCondT rfl ?_
    refine aSeq ?_
    refine aReg ?_
    refine sq ?_
    refine qCallV rfl rfl (by decide) rfl rfl (lents_refl _) law03_awake ?_
    refine sp pMa ?_
    refine oNil ?_
    refine aRet ?_
    exact ⟨_, [], _, rfl, .nil, rfl, rfl⟩
  · skip
    refine gp pM ?_
    refine gp pB ?_
    refine gp pM ?_
    refine oSplitDec 21 rfl (fun c21 => ?_) (fun c21 => ?_)
    · skip
      refine gp pM ?_
      refine gp pB ?_
      refine gp pK ?_
      refine sp pK ?_
      refine oNil ?_
      refine aCondDec rfl (fun c25 => ?_) (fun c25 => ?_)
      · skip
        refine aSeq ?_
        refine aReg ?_
        refine sq ?_
        refine qCallV rfl rfl (by decide) rfl rfl (lents_refl _) law03_awake ?_
        refine sp pMa ?_
        refine oNil ?_
        refine aRet ?_
        exact ⟨_, [], _, rfl, .nil, rfl, rfl⟩
      · skip
        refine aSkip ?_
        refine aSeq ?_
        refine aReg ?_
        refine sp pM ?_
        refine sa ?_
        refine aCall rfl rfl (by decide) rfl rfl .nil (disk_New1 n) ?_
        rintro _ hh ⟨x, e, rfl, hbad, hgood⟩
        refine sp pM ?_
        refine sp pX ?_
        refine sp pX ?_
        refine sp pMa ?_
        refine sp pMa ?_
        refine oNil ?_
        refine aSeq ?_
        refine aSeq ?_
        refine aReg ?_
        refine sp pM ?_
        refine sp pB ?_
        refine sp pM ?_
        refine oSplitDec 34 rfl (fun c34 => ?_) (fun c34 => ?_)
        · skip
          refine gf ?_
          refine gf ?_
          refine sp pK ?_
          refine oNil ?_
          refine aCondT rfl ?_
          refine aSeq ?_
          obtain ⟨rfl, rfl, rfl⟩ := hbad (by omega)
          refine aReg ?_
          refine sp pM ?_
          refine sp (pBin rfl rfl rfl rfl (rfl : _ = Value.bool true)) ?_
          refine sp pM ?_
          refine gp pM ?_
          refine gp (by first | exact pPtrNil rfl (.inl rfl) rfl pt_78 rfl (rfl : _ = true) | exact pSpNil rfl (.inl rfl) rfl pt_78 (rfl : _ = true)) ?_
          refine sp pK ?_
          refine sp pM ?_
          refine ga ?_
          refine (qCallV rfl rfl (by decide) rfl rfl (lents_refl _) law03_awake ?_).op
          refine sp pK ?_
          refine sp pMa ?_
          refine oNil ?_
          refine aRet ?_
          exact ⟨_, [], _, rfl, .nil, rfl, rfl⟩
        · skip
          refine gp pM ?_
          refine gp pB ?_
          refine sp pK ?_
          refine oNil ?_
          refine aCondDec rfl (fun c37 => ?_) (fun c37 => ?_)
          · skip
            refine aSeq ?_
            obtain ⟨rfl, rfl, rfl⟩ := hbad (by omega)
            refine aReg ?_
            refine sp pM ?_
            refine sp (pBin rfl rfl rfl rfl (rfl : _ = Value.bool true)) ?_
            refine sp pM ?_
            refine gp pM ?_
            refine gp (by first | exact pPtrNil rfl (.inl rfl) rfl pt_78 rfl (rfl : _ = true) | exact pSpNil rfl (.inl rfl) rfl pt_78 (rfl : _ = true)) ?_
            refine sp pK ?_
            refine sp pM ?_
            refine ga ?_
            refine (qCallV rfl rfl (by decide) rfl rfl (lents_refl _) law03_awake ?_).op
            refine sp pK ?_
            refine sp pMa ?_
            refine oNil ?_
            refine aRet ?_
            exact ⟨_, [], _, rfl, .nil, rfl, rfl⟩
          · skip
            refine aSkip ?_
            refine aSeq ?_
            refine aSeq ?_
            obtain ⟨db, bs, bw, rfl, rfl, rfl⟩ := hgood (by omega)
            obtain ⟨m, rfl⟩ : ∃ m : Nat, n = m := ⟨n.toNat, by omega⟩
            have hok : lightB l = true := by simpa using c18
            have hll := light_len hok
            refine aReg ?_
            refine sp pM ?_
            refine sp (pBin rfl rfl rfl rfl (rfl : _ = Value.bool false)) ?_
            refine sp pM ?_
            refine gp pM ?_
            refine gp (by first | exact pPtrNil rfl (.inl rfl) rfl pt_78 rfl (rfl : _ = false) | exact pSpNil rfl (.inl rfl) rfl pt_78 (rfl : _ = false)) ?_
            refine sp pK ?_
            refine oNil ?_
            refine aCondF rfl ?_
            refine aSkip ?_
            refine aSeq ?_
            refine aReg ?_
            refine sp pM ?_
            refine sq ?_
            refine qCall0 rfl rfl (by decide) rfl rfl (ref03_New m (by omega) (by omega)) ?_
            rintro _ _ ⟨rfl, rfl⟩
            refine sq ?_
            refine qAlloc rfl rfl (by decide) ze_83 rfl (fun b7 => ?_)
            refine sa ?_
            refine oStB rfl rfl rfl rfl (by repeat constructor) ty_83 rfl (Nat.le_of_ble_eq_true rfl) rfl ?_
            refine oNil ?_
            refine aSeq ?_
            refine aSeq ?_
            refine aReg ?_
            refine sp pMa ?_
            refine oNil ?_
            refine aBlock ?_
            refine aLoopI (α := Nat × List (Int × BS) × List (Int × BS) × DW) (fun (i, S, W, w) => i ≤ l.length ∧ Rel m S W w) (fun (i, S, W, w) => ([(0, .int m), (1, .sl 5 (l.map dactC)), (5, .v (.pointer (some ⟨db, 0, none⟩))), (7, .v (.pointer (some ⟨b7, 0, none⟩))), (8, .int i)], .box b7 (dwC w) :: [.box db [.int m, .v (.map (some bs)), .v (.map (some bw)), .int w.armed, .v (.bool w.dead)], .map bs (kvA S), .map bw (kvA W)])) (fun (i, S, W, w) => l.length - i) (0, [], [], DW.new m) ?_ ?_ ?_
            · skip
              exact ⟨Nat.zero_le _, rel_new (by omega) (by omega)⟩
            · skip
              exact weak_sub ⟨rfl, rfl, rfl, rfl, rfl, trivial⟩ (.cons (by repeat constructor) (.cons (by repeat constructor) (.cons (by repeat constructor) (.cons (by repeat constructor) .nil))))
            · rintro ⟨i, S, W, w⟩ ⟨hi, r⟩
              skip
              refine aSeq ?_
              refine aSeq ?_
              refine aReg ?_
              refine sp pM ?_
              refine sp pM ?_
              refine sp (by first | exact pLm sl_74 | exact pLs sl_74 | exact pLv sl_74) ?_
              refine sp pB ?_
              refine oNil ?_
              refine aCondDec rfl (fun c58 => ?_) (fun c58 => ?_)
              · skip
                refine aSkip ?_
                refine aSeq ?_
                refine aBlock ?_
                refine aSeq ?_
                obtain ⟨a, hai⟩ : ∃ a, l[i]? = some a := ⟨_, List.getElem?_eq_getElem (by omega)⟩
                refine aDrawS (h1 := [.box b7 _]) law03_DiskActs_r12_t law03_DiskActs_r12_b [11] 13 #[false, false, false, false, false, false, false, false, false, false, false, false, false] (by kernel_rfl) rfl rfl (.cons (by repeat constructor) .nil) (fun HT => ?_)
                refine ep HT 0 rfl pM ?_
                refine er HT 1 rfl (by first | exact rSW ty_83 rfl | exact rSA ty_83 | exact rBW ty_83 | exact rBA ty_83) ?_
                refine ep HT 2 rfl pM ?_
                refine ep HT 3 rfl pM ?_
                refine ep HT 4 rfl (pIdxS rfl rfl rfl es_74 (by omega) (map_get1 (f := dactC) hai)) ?_
                refine er HT 5 rfl (by first | exact rSW ty_89 rfl | exact rSA ty_89 | exact rBW ty_89 | exact rBA ty_89) ?_
                refine eTwoS (i := 6) (j := 10) #[true, true, true, true, true, true, true, false, false, false, false, false, false] #[true, true, true, true, true, true, false, false, false, false, true, false, false] rfl rfl (HT.two (by kernel_rfl)) (by decide) (by decide) ?_ ?_
                · skip
                  refine stA (hx := [.box db [.int m, .v (.map (some bs)), .v (.map (some bw)), .int w.armed, .v (.bool w.dead)], .map bs (kvA S), .map bw (kvA W)]) (wantN rfl) (fun t ht => by cases ht <;> decide) (.cons (by repeat constructor) (.cons (by repeat constructor) (.cons (by repeat constructor) .nil))) (by repeat constructor) ?_
                  refine aCall rfl rfl (by decide) rfl rfl tk_refl (law03_Do db bs bw m S W w w r r.fit a (light_at hok hai) (ha a (List.mem_of_getElem? hai))) ?_
                  rintro _ _ ⟨rfl, S', W', r', rfl⟩
                  refine undel (d := 68) rfl ?_
                  dsimp only [List.cons_append, List.nil_append]
                  rw [show ((w.act1 a).2 == (w.act1 a).2) = true by simp]
                  refine ef HT 7 rfl pM ?_
                  refine ef HT 8 rfl pX ?_
                  refine ef HT 9 rfl pX ?_
                  refine e1 HT 10 rfl ?_
                  refine qAlloc rfl rfl (by decide) ze_83 rfl (fun b9 => ?_)
                  refine eLast ?_
                  refine f1 HT 11 rfl ?_
                  refine oStB rfl rfl rfl rfl (by repeat constructor) ty_83 rfl (Nat.le_of_ble_eq_true rfl) rfl ?_
                  refine fp HT 12 rfl pMa ?_
                  refine fE HT ?_
                  clear HT
                  refine aSeq ?_
                  refine aReg ?_
                  refine sr (by first | exact rBW ty_83 | exact rBA ty_83) ?_
                  refine sa ?_
                  refine oStB rfl rfl rfl rfl (by repeat constructor) ty_83 rfl (Nat.le_of_ble_eq_true rfl) rfl ?_
                  refine oNil ?_
                  refine aSeq ?_
                  refine aReg ?_
                  refine sp pM ?_
                  refine sp pNo ?_
                  refine sp pM ?_
                  refine gp pM ?_
                  refine gr (by first | exact rSW ty_83 rfl | exact rSA ty_83 | exact rBW ty_83 | exact rBA ty_83) ?_
                  refine ga ?_
                  refine aCall rfl rfl (by decide) rfl rfl (.cons (by repeat constructor) (.cons (by repeat constructor) (.cons (by repeat constructor) .nil))) (law03_Like db bs bw m S' W' (w.act1 a).1 r') ?_
                  rintro _ _ ⟨rfl, rfl⟩
                  refine gp pNo ?_
                  refine sp pK ?_
                  refine oNil ?_
                  refine aCondF rfl ?_
                  refine aSkip ?_
                  refine aReg ?_
                  refine sp pM ?_
                  refine sp pAd ?_
                  refine sp pMa ?_
                  refine oNil ?_
                  exact ⟨(i + 1, S', W', (w.act1 a).1), ⟨by omega, r'⟩, by show l.length - (i + 1) < l.length - i; omega, weak_sub ⟨rfl, rfl, rfl, rfl, gInt rfl (by simp), trivial⟩ (.cons (by repeat constructor) (.cons (by repeat constructor) (.cons (by repeat constructor) (.cons (by repeat constructor) .nil))))⟩
                · skip
                  refine stQ (wantN rfl) (fun t ht => by cases ht <;> decide) ?_
                  refine qAlloc rfl rfl (by decide) ze_83 rfl (fun b9 => ?_)
                  refine undel (d := 9) rfl ?_
                  refine eOneS (i := 6) #[true, true, true, true, true, true, true, false, false, false, true, false, false] rfl (HT.one (by kernel_rfl)) (by decide) ?_
                  · skip
                    refine stA (hx := [.box db [.int m, .v (.map (some bs)), .v (.map (some bw)), .int w.armed, .v (.bool w.dead)], .map bs (kvA S), .map bw (kvA W)]) (wantN rfl) (fun t ht => by cases ht <;> decide) (.cons (by repeat constructor) (.cons (by repeat constructor) (.cons (by repeat constructor) .nil))) (by repeat constructor) ?_
                    refine aCall rfl rfl (by decide) rfl rfl tk_refl (law03_Do db bs bw m S W w w r r.fit a (light_at hok hai) (ha a (List.mem_of_getElem? hai))) ?_
                    rintro _ _ ⟨rfl, S', W', r', rfl⟩
                    refine undel (d := 68) rfl ?_
                    dsimp only [List.cons_append, List.nil_append]
                    rw [show ((w.act1 a).2 == (w.act1 a).2) = true by simp]
                    refine ef HT 7 rfl pM ?_
                    refine ef HT 8 rfl pX ?_
                    refine ef HT 9 rfl pX ?_
                    refine eLast ?_
                    refine f1 HT 11 rfl ?_
                    refine oStB rfl rfl rfl rfl (by repeat constructor) ty_83 rfl (Nat.le_of_ble_eq_true rfl) rfl ?_
                    refine fp HT 12 rfl pMa ?_
                    refine fE HT ?_
                    clear HT
                    refine aSeq ?_
                    refine aReg ?_
                    refine sr (by first | exact rBW ty_83 | exact rBA ty_83) ?_
                    refine sa ?_
                    refine oStB rfl rfl rfl rfl (by repeat constructor) ty_83 rfl (Nat.le_of_ble_eq_true rfl) rfl ?_
                    refine oNil ?_
                    refine aSeq ?_
                    refine aReg ?_
                    refine sp pM ?_
                    refine sp pNo ?_
                    refine sp pM ?_
                    refine gp pM ?_
                    refine gr (by first | exact rSW ty_83 rfl | exact rSA ty_83 | exact rBW ty_83 | exact rBA ty_83) ?_
                    refine ga ?_
                    refine aCall rfl rfl (by decide) rfl rfl (.cons (by repeat constructor) (.cons (by repeat constructor) (.cons (by repeat constructor) .nil))) (law03_Like db bs bw m S' W' (w.act1 a).1 r') ?_
                    rintro _ _ ⟨rfl, rfl⟩
                    refine gp pNo ?_
                    refine sp pK ?_
                    refine oNil ?_
                    refine aCondF rfl ?_
                    refine aSkip ?_
                    refine aReg ?_
                    refine sp pM ?_
                    refine sp pAd ?_
                    refine sp pMa ?_
                    refine oNil ?_
                    exact ⟨(i + 1, S', W', (w.act1 a).1), ⟨by omega, r'⟩, by show l.length - (i + 1) < l.length - i; omega, weak_sub ⟨rfl, rfl, rfl, rfl, gInt rfl (by simp), trivial⟩ (.cons (by repeat constructor) (.cons (by repeat constructor) (.cons (by repeat constructor) (.cons (by repeat constructor) .nil))))⟩
              · skip
                refine aExit rfl ?_
                refine aSeq ?_
                refine aReg ?_
                refine sp pM ?_
                refine sp pM ?_
                refine sa ?_
                refine aCall rfl rfl (by decide) rfl rfl (.cons (by repeat constructor) (.cons (by repeat constructor) (.cons (by repeat constructor) .nil))) (disk_Read db bs bw m m S W w r) ?_
                rintro _ _ ⟨g83, c83, rfl, rfl⟩
                refine sp pM ?_
                refine sp pX ?_
                refine sp pX ?_
                refine sp pMa ?_
                refine sp pMa ?_
                refine oNil ?_
                refine aSeq ?_
                refine aReg ?_
                refine sp pM ?_
                refine sa ?_
                refine aCall rfl rfl (by decide) rfl rfl (.cons (by repeat constructor) (.cons (by repeat constructor) (.cons (by repeat constructor) .nil))) (disk_Read db bs bw m (-1) S W w r) ?_
                rintro _ _ ⟨g88, c88, rfl, rfl⟩
                refine sp pM ?_
                refine sp pX ?_
                refine sp pX ?_
                refine sp pMa ?_
                refine sp pMa ?_
                refine oNil ?_
                refine aSeq ?_
                have hsn := r.sn
                have h1 : (if (BinOp.eql = BinOp.eql) then (((w.read m).2 == 7) == w.dead) else !(((w.read m).2 == 7) == w.dead)) = true := by rw [if_pos rfl, read_n w hsn]; cases w.dead <;> rfl
                have h2 : (if (BinOp.eql = BinOp.eql) then (((w.read m).2 == 1) == !w.dead) else !(((w.read m).2 == 1) == !w.dead)) = true := by rw [if_pos rfl, read_n w hsn]; cases w.dead <;> rfl
                have h3 : (.bool ((w.read m).2 == (w.read (-1)).2) : Value) = .bool true := by rw [read_n w hsn, read_m]; simp
                refine aReg ?_
                refine sp pM ?_
                refine sp (pBin rfl rfl rfl rfl (rfl : _ = Value.bool ((w.read m).2 == 7))) ?_
                refine sp (by first | exact pFb fd_83_3 | exact pFs fd_83_3) ?_
                refine sr (by first | exact rS1 ty_4 | exact rB1 ty_4) ?_
                refine sp (pEqB rfl (.inl rfl) rfl rfl bo_4 h1) ?_
                refine sp pM ?_
                refine gp pM ?_
                refine gp (pBin rfl rfl rfl rfl (rfl : _ = Value.bool ((w.read m).2 == 1))) ?_
                refine gp (by first | exact pFb fd_83_3 | exact pFs fd_83_3) ?_
                refine gr (by first | exact rS1 ty_4 | exact rB1 ty_4) ?_
                refine gp pNo ?_
                refine gp (pEqB rfl (.inl rfl) rfl rfl bo_4 h2) ?_
                refine sp pK ?_
                refine sp pM ?_
                refine gp pM ?_
                refine gp pM ?_
                refine gp (pBin rfl rfl rfl rfl h3) ?_
                refine sp pK ?_
                refine sp pM ?_
                refine ga ?_
                refine (qCallV rfl rfl (by decide) rfl rfl (lents_refl _) law03_awake ?_).op
                refine sp pK ?_
                refine sp pMa ?_
                refine oNil ?_
                refine aRet ?_
                exact ⟨_, [], _, rfl, .nil, rfl, rfl⟩
    · skip
      refine gf ?_
      refine gf ?_
      refine gp pK ?_
      refine sp pK ?_
      refine oNil ?_
      refine aCondF rfl ?_
      refine aSkip ?_
      refine aSeq ?_
      refine aReg ?_
      refine sp pM ?_
      refine sa ?_
      refine aCall rfl rfl (by decide) rfl rfl .nil (disk_New1 n) ?_
      rintro _ hh ⟨x, e, rfl, hbad, hgood⟩
      refine sp pM ?_
      refine sp pX ?_
      refine sp pX ?_
      refine sp pMa ?_
      refine sp pMa ?_
      refine oNil ?_
      refine aSeq ?_
      refine aSeq ?_
      refine aReg ?_
      refine sp pM ?_
      refine sp pB ?_
      refine sp pM ?_
      refine oSplitDec 34 rfl (fun c34 => ?_) (fun c34 => ?_)
      · skip
        refine gf ?_
        refine gf ?_
        refine sp pK ?_
        refine oNil ?_
        refine aCondT rfl ?_
        refine aSeq ?_
        obtain ⟨rfl, rfl, rfl⟩ := hbad (by omega)
        refine aReg ?_
        refine sp pM ?_
        refine sp (pBin rfl rfl rfl rfl (rfl : _ = Value.bool true)) ?_
        refine sp pM ?_
        refine gp pM ?_
        refine gp (by first | exact pPtrNil rfl (.inl rfl) rfl pt_78 rfl (rfl : _ = true) | exact pSpNil rfl (.inl rfl) rfl pt_78 (rfl : _ = true)) ?_
        refine sp pK ?_
        refine sp pM ?_
        refine ga ?_
        refine (qCallV rfl rfl (by decide) rfl rfl (lents_refl _) law03_awake ?_).op
        refine sp pK ?_
        refine sp pMa ?_
        refine oNil ?_
        refine aRet ?_
        exact ⟨_, [], _, rfl, .nil, rfl, rfl⟩
      · skip
        refine gp pM ?_
        refine gp pB ?_
        refine sp pK ?_
        refine oNil ?_
        refine aCondDec rfl (fun c37 => ?_) (fun c37 => ?_)
        · skip
          refine aSeq ?_
          obtain ⟨rfl, rfl, rfl⟩ := hbad (by omega)
          refine aReg ?_
          refine sp pM ?_
          refine sp (pBin rfl rfl rfl rfl (rfl : _ = Value.bool true)) ?_
          refine sp pM ?_
          refine gp pM ?_
          refine gp (by first | exact pPtrNil rfl (.inl rfl) rfl pt_78 rfl (rfl : _ = true) | exact pSpNil rfl (.inl rfl) rfl pt_78 (rfl : _ = true)) ?_
          refine sp pK ?_
          refine sp pM ?_
          refine ga ?_
          refine (qCallV rfl rfl (by decide) rfl rfl (lents_refl _) law03_awake ?_).op
          refine sp pK ?_
          refine sp pMa ?_
          refine oNil ?_
          refine aRet ?_
          exact ⟨_, [], _, rfl, .nil, rfl, rfl⟩
        · skip
          refine aSkip ?_
          refine aSeq ?_
          refine aSeq ?_
          obtain ⟨db, bs, bw, rfl, rfl, rfl⟩ := hgood (by omega)
          obtain ⟨m, rfl⟩ : ∃ m : Nat, n = m := ⟨n.toNat, by omega⟩
          have hok : lightB l = true := by simpa using c18
          have hll := light_len hok
          refine aReg ?_
          refine sp pM ?_
          refine sp (pBin rfl rfl rfl rfl (rfl : _ = Value.bool false)) ?_
          refine sp pM ?_
          refine gp pM ?_
          refine gp (by first | exact pPtrNil rfl (.inl rfl) rfl pt_78 rfl (rfl : _ = false) | exact pSpNil rfl (.inl rfl) rfl pt_78 (rfl : _ = false)) ?_
          refine sp pK ?_
          refine oNil ?_
          refine aCondF rfl ?_
          refine aSkip ?_
          refine aSeq ?_
          refine aReg ?_
          refine sp pM ?_
          refine sq ?_
          refine qCall0 rfl rfl (by decide) rfl rfl (ref03_New m (by omega) (by omega)) ?_
          rintro _ _ ⟨rfl, rfl⟩
          refine sq ?_
          refine qAlloc rfl rfl (by decide) ze_83 rfl (fun b7 => ?_)
          refine sa ?_
          refine oStB rfl rfl rfl rfl (by repeat constructor) ty_83 rfl (Nat.le_of_ble_eq_true rfl) rfl ?_
          refine oNil ?_
          refine aSeq ?_
          refine aSeq ?_
          refine aReg ?_
          refine sp pMa ?_
          refine oNil ?_
          refine aBlock ?_
          refine aLoopI (α := Nat × List (Int × BS) × List (Int × BS) × DW) (fun (i, S, W, w) => i ≤ l.length ∧ Rel m S W w) (fun (i, S, W, w) => ([(0, .int m), (1, .sl 5 (l.map dactC)), (5, .v (.pointer (some ⟨db, 0, none⟩))), (7, .v (.pointer (some ⟨b7, 0, none⟩))), (8, .int i)], .box b7 (dwC w) :: [.box db [.int m, .v (.map (some bs)), .v (.map (some bw)), .int w.armed, .v (.bool w.dead)], .map bs (kvA S), .map bw (kvA W)])) (fun (i, S, W, w) => l.length - i) (0, [], [], DW.new m) ?_ ?_ ?_
          · skip
            exact ⟨Nat.zero_le _, rel_new (by omega) (by omega)⟩
          · skip
            exact weak_sub ⟨rfl, rfl, rfl, rfl, rfl, trivial⟩ (.cons (by repeat constructor) (.cons (by repeat constructor) (.cons (by repeat constructor) (.cons (by repeat constructor) .nil))))
          · rintro ⟨i, S, W, w⟩ ⟨hi, r⟩
            skip
            refine aSeq ?_
            refine aSeq ?_
            refine aReg ?_
            refine sp pM ?_
            refine sp pM ?_
            refine sp (by first | exact pLm sl_74 | exact pLs sl_74 | exact pLv sl_74) ?_
            refine sp pB ?_
            refine oNil ?_
            refine aCondDec rfl (fun c58 => ?_) (fun c58 => ?_)
            · skip
              refine aSkip ?_
              refine aSeq ?_
              refine aBlock ?_
              refine aSeq ?_
              obtain ⟨a, hai⟩ : ∃ a, l[i]? = some a := ⟨_, List.getElem?_eq_getElem (by omega)⟩
              refine aDrawS (h1 := [.box b7 _]) law03_DiskActs_r12_t law03_DiskActs_r12_b [11] 13 #[false, false, false, false, false, false, false, false, false, false, false, false, false] (by kernel_rfl) rfl rfl (.cons (by repeat constructor) .nil) (fun HT => ?_)
              refine ep HT 0 rfl pM ?_
              refine er HT 1 rfl (by first | exact rSW ty_83 rfl | exact rSA ty_83 | exact rBW ty_83 | exact rBA ty_83) ?_
              refine ep HT 2 rfl pM ?_
              refine ep HT 3 rfl pM ?_
              refine ep HT 4 rfl (pIdxS rfl rfl rfl es_74 (by omega) (map_get1 (f := dactC) hai)) ?_
              refine er HT 5 rfl (by first | exact rSW ty_89 rfl | exact rSA ty_89 | exact rBW ty_89 | exact rBA ty_89) ?_
              refine eTwoS (i := 6) (j := 10) #[true, true, true, true, true, true, true, false, false, false, false, false, false] #[true, true, true, true, true, true, false, false, false, false, true, false, false] rfl rfl (HT.two (by kernel_rfl)) (by decide) (by decide) ?_ ?_
              · skip
                refine stA (hx := [.box db [.int m, .v (.map (some bs)), .v (.map (some bw)), .int w.armed, .v (.bool w.dead)], .map bs (kvA S), .map bw (kvA W)]) (wantN rfl) (fun t ht => by cases ht <;> decide) (.cons (by repeat constructor) (.cons (by repeat constructor) (.cons (by repeat constructor) .nil))) (by repeat constructor) ?_
                refine aCall rfl rfl (by decide) rfl rfl tk_refl (law03_Do db bs bw m S W w w r r.fit a (light_at hok hai) (ha a (List.mem_of_getElem? hai))) ?_
                rintro _ _ ⟨rfl, S', W', r', rfl⟩
                refine undel (d := 68) rfl ?_
                dsimp only [List.cons_append, List.nil_append]
                rw [show ((w.act1 a).2 == (w.act1 a).2) = true by simp]
                refine ef HT 7 rfl pM ?_
                refine ef HT 8 rfl pX ?_
                refine ef HT 9 rfl pX ?_
                refine e1 HT 10 rfl ?_
                refine qAlloc rfl rfl (by decide) ze_83 rfl (fun b9 => ?_)
                refine eLast ?_
                refine f1 HT 11 rfl ?_
                refine oStB rfl rfl rfl rfl (by repeat constructor) ty_83 rfl (Nat.le_of_ble_eq_true rfl) rfl ?_
                refine fp HT 12 rfl pMa ?_
                refine fE HT ?_
                clear HT
                refine aSeq ?_
                refine aReg ?_
                refine sr (by first | exact rBW ty_83 | exact rBA ty_83) ?_
                refine sa ?_
                refine oStB rfl rfl rfl rfl (by repeat constructor) ty_83 rfl (Nat.le_of_ble_eq_true rfl) rfl ?_
                refine oNil ?_
                refine aSeq ?_
                refine aReg ?_
                refine sp pM ?_
                refine sp pNo ?_
                refine sp pM ?_
                refine gp pM ?_
                refine gr (by first | exact rSW ty_83 rfl | exact rSA ty_83 | exact rBW ty_83 | exact rBA ty_83) ?_
                refine ga ?_
                refine aCall rfl rfl (by decide) rfl rfl (.cons (by repeat constructor) (.cons (by repeat constructor) (.cons (by repeat constructor) .nil))) (law03_Like db bs bw m S' W' (w.act1 a).1 r') ?_
                rintro _ _ ⟨rfl, rfl⟩
                refine gp pNo ?_
                refine sp pK ?_
                refine oNil ?_
                refine aCondF rfl ?_
                refine aSkip ?_
                refine aReg ?_
                refine sp pM ?_
                refine sp pAd ?_
                refine sp pMa ?_
                refine oNil ?_
                exact ⟨(i + 1, S', W', (w.act1 a).1), ⟨by omega, r'⟩, by show l.length - (i + 1) < l.length - i; omega, weak_sub ⟨rfl, rfl, rfl, rfl, gInt rfl (by simp), trivial⟩ (.cons (by repeat constructor) (.cons (by repeat constructor) (.cons (by repeat constructor) (.cons (by repeat constructor) .nil))))⟩
              · skip
                refine stQ (wantN rfl) (fun t ht => by cases ht <;> decide) ?_
                refine qAlloc rfl rfl (by decide) ze_83 rfl (fun b9 => ?_)
                refine undel (d := 9) rfl ?_
                refine eOneS (i := 6) #[true, true, true, true, true, true, true, false, false, false, true, false, false] rfl (HT.one (by kernel_rfl)) (by decide) ?_
                · skip
                  refine stA (hx := [.box db [.int m, .v (.map (some bs)), .v (.map (some bw)), .int w.armed, .v (.bool w.dead)], .map bs (kvA S), .map bw (kvA W)]) (wantN rfl) (fun t ht => by cases ht <;> decide) (.cons (by repeat constructor) (.cons (by repeat constructor) (.cons (by repeat constructor) .nil))) (by repeat constructor) ?_
                  refine aCall rfl rfl (by decide) rfl rfl tk_refl (law03_Do db bs bw m S W w w r r.fit a (light_at hok hai) (ha a (List.mem_of_getElem? hai))) ?_
                  rintro _ _ ⟨rfl, S', W', r', rfl⟩
                  refine undel (d := 68) rfl ?_
                  dsimp only [List.cons_append, List.nil_append]
                  rw [show ((w.act1 a).2 == (w.act1 a).2) = true by simp]
                  refine ef HT 7 rfl pM ?_
                  refine ef HT 8 rfl pX ?_
                  refine ef HT 9 rfl pX ?_
                  refine eLast ?_
                  refine f1 HT 11 rfl ?_
                  refine oStB rfl rfl rfl rfl (by repeat constructor) ty_83 rfl (Nat.le_of_ble_eq_true rfl) rfl ?_
                  refine fp HT 12 rfl pMa ?_
                  refine fE HT ?_
                  clear HT
                  refine aSeq ?_
                  refine aReg ?_
                  refine sr (by first | exact rBW ty_83 | exact rBA ty_83) ?_
                  refine sa ?_
                  refine oStB rfl rfl rfl rfl (by repeat constructor) ty_83 rfl (Nat.le_of_ble_eq_true rfl) rfl ?_
                  refine oNil ?_
                  refine aSeq ?_
                  refine aReg ?_
                  refine sp pM ?_
                  refine sp pNo ?_
                  refine sp pM ?_
                  refine gp pM ?_
                  refine gr (by first | exact rSW ty_83 rfl | exact rSA ty_83 | exact rBW ty_83 | exact rBA ty_83) ?_
                  refine ga ?_
                  refine aCall rfl rfl (by decide) rfl rfl (.cons (by repeat constructor) (.cons (by repeat constructor) (.cons (by repeat constructor) .nil))) (law03_Like db bs bw m S' W' (w.act1 a).1 r') ?_
                  rintro _ _ ⟨rfl, rfl⟩
                  refine gp pNo ?_
                  refine sp pK ?_
                  refine oNil ?_
                  refine aCondF rfl ?_
                  refine aSkip ?_
                  refine aReg ?_
                  refine sp pM ?_
                  refine sp pAd ?_
                  refine sp pMa ?_
                  refine oNil ?_
                  exact ⟨(i + 1, S', W', (w.act1 a).1), ⟨by omega, r'⟩, by show l.length - (i + 1) < l.length - i; omega, weak_sub ⟨rfl, rfl, rfl, rfl, gInt rfl (by simp), trivial⟩ (.cons (by repeat constructor) (.cons (by repeat constructor) (.cons (by repeat constructor) (.cons (by repeat constructor) .nil))))⟩
            · skip
              refine aExit rfl ?_
              refine aSeq ?_
              refine aReg ?_
              refine sp pM ?_
              refine sp pM ?_
              refine sa ?_
              refine aCall rfl rfl (by decide) rfl rfl (.cons (by repeat constructor) (.cons (by repeat constructor) (.cons (by repeat constructor) .nil))) (disk_Read db bs bw m m S W w r) ?_
              rintro _ _ ⟨g83, c83, rfl, rfl⟩
              refine sp pM ?_
              refine sp pX ?_
              refine sp pX ?_
              refine sp pMa ?_
              refine sp pMa ?_
              refine oNil ?_
              refine aSeq ?_
              refine aReg ?_
              refine sp pM ?_
              refine sa ?_
              refine aCall rfl rfl (by decide) rfl rfl (.cons (by repeat constructor) (.cons (by repeat constructor) (.cons (by repeat constructor) .nil))) (disk_Read db bs bw m (-1) S W w r) ?_
              rintro _ _ ⟨g88, c88, rfl, rfl⟩
              refine sp pM ?_
              refine sp pX ?_
              refine sp pX ?_
              refine sp pMa ?_
              refine sp pMa ?_
              refine oNil ?_
              refine aSeq ?_
              have hsn := r.sn
              have h1 : (if (BinOp.eql = BinOp.eql) then (((w.read m).2 == 7) == w.dead) else !(((w.read m).2 == 7) == w.dead)) = true := by rw [if_pos rfl, read_n w hsn]; cases w.dead <;> rfl
              have h2 : (if (BinOp.eql = BinOp.eql) then (((w.read m).2 == 1) == !w.dead) else !(((w.read m).2 == 1) == !w.dead)) = true := by rw [if_pos rfl, read_n w hsn]; cases w.dead <;> rfl
              have h3 : (.bool ((w.read m).2 == (w.read (-1)).2) : Value) = .bool true := by rw [read_n w hsn, read_m]; simp
              refine aReg ?_
              refine sp pM ?_
              refine sp (pBin rfl rfl rfl rfl (rfl : _ = Value.bool ((w.read m).2 == 7))) ?_
              refine sp (by first | exact pFb fd_83_3 | exact pFs fd_83_3) ?_
              refine sr (by first | exact rS1 ty_4 | exact rB1 ty_4) ?_
              refine sp (pEqB rfl (.inl rfl) rfl rfl bo_4 h1) ?_
              refine sp pM ?_
              refine gp pM ?_
              refine gp (pBin rfl rfl rfl rfl (rfl : _ = Value.bool ((w.read m).2 == 1))) ?_
              refine gp (by first | exact pFb fd_83_3 | exact pFs fd_83_3) ?_
              refine gr (by first | exact rS1 ty_4 | exact rB1 ty_4) ?_
              refine gp pNo ?_
              refine gp (pEqB rfl (.inl rfl) rfl rfl bo_4 h2) ?_
              refine sp pK ?_
              refine sp pM ?_
              refine gp pM ?_
              refine gp pM ?_
              refine gp (pBin rfl rfl rfl rfl h3) ?_
              refine sp pK ?_
              refine sp pM ?_
              refine ga ?_
              refine (qCallV rfl rfl (by decide) rfl rfl (lents_refl _) law03_awake ?_).op
              refine sp pK ?_
              refine sp pMa ?_
              refine oNil ?_
              refine aRet ?_
              exact ⟨_, [], _, rfl, .nil, rfl, rfl⟩

end A
end Go.Proofs.Ytkgemkadebgeoaa
