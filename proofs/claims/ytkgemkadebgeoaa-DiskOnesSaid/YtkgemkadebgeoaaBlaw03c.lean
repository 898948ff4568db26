/- What functions of the program compute: law03c -/
import Derived.Test.YtkgemkadebgeoaaBlaw03b
import Derived.Test.YtkgemkadebgeoaaProg
import Derived.KernelRfl
set_option linter.unusedVariables false
set_option linter.unusedSimpArgs false
namespace Go.Proofs.Ytkgemkadebgeoaa
namespace A

theorem bo_4 : isBoolT Try.prog 4 = true := by kernel_rfl
theorem st_109 : structPlaces Try.prog 109 = some [(0, 1), (1, 1), (2, 1), (3, 1), (4, 1)] := by kernel_rfl
theorem ze_109 : zeroOf Try.prog 109 = some (.agg #[.int .i64 0, .map none, .map none, .int .i64 0, .bool false]) := by kernel_rfl
/- disk.Disk).off -/
set_option maxRecDepth 100000 in
set_option maxHeartbeats 400000 in
theorem disk_off_s (n a : Int) (x y : AV) (d : Bool) : Triple Try.prog 90 [.sp [.int n, x, y, .int a, .v (.bool d)]] [] (fun r h' => r = .v (.bool (n == 0 || d)) ∧ h' = []) := by
  refine triple_of Try.func90 rfl (by kernel_rfl) rfl (by simp) ?_
  refine aSeq ?_
  refine aReg ?_
  refine sp pMa ?_
  refine oNil ?_
  refine aSeq ?_
  refine aReg ?_
  refine sp pM ?_
  refine sp (by first | exact pPtrNil rfl (.inl rfl) rfl pt_78 rfl (rfl : _ = false) | exact pSpNil rfl (.inl rfl) rfl pt_78 (rfl : _ = false)) ?_
  refine sp pM ?_
  refine gp pM ?_
  refine gp pNs ?_
  refine gp (pFs fd_109_0) ?_
  refine gr (rS1 ty_3) ?_
  refine gp pB ?_
  refine sp pK ?_
  refine sp pM ?_
  refine oSplitEq 12 rfl (fun c12 => ?_) (fun c12 => ?_)
  · skip
    refine gf ?_
    refine gf ?_
    refine gf ?_
    refine gf ?_
    refine sp pK ?_
    refine sp pMa ?_
    refine oNil ?_
    refine aRet ?_
    refine ⟨_, [], [], rfl, .nil, ?_, rfl⟩
    simp_all [retOf]
  · skip
    refine gp pM ?_
    refine gp pNs ?_
    refine gp (pFs fd_109_4) ?_
    refine gr (rS1 ty_4) ?_
    refine sp pK ?_
    refine sp pMa ?_
    refine oNil ?_
    refine aRet ?_
    refine ⟨_, [], [], rfl, .nil, ?_, rfl⟩
    simp_all [retOf]

/- disk.Disk).Size -/
set_option maxRecDepth 100000 in
set_option maxHeartbeats 400000 in
theorem disk_Size_s (n a : Int) (x y : AV) (d : Bool) : Triple Try.prog 58 [.sp [.int n, x, y, .int a, .v (.bool d)]] [] (fun r h' => r = .int n ∧ h' = []) := by
  refine triple_of Try.func58 rfl (by kernel_rfl) rfl (by simp) ?_
  refine aSeq ?_
  refine aReg ?_
  refine sp pMa ?_
  refine oNil ?_
  refine aSeq ?_
  refine aSeq ?_
  refine aReg ?_
  refine sp pM ?_
  refine sp (by first | exact pPtrNil rfl (.inl rfl) rfl pt_78 rfl (rfl : _ = false) | exact pSpNil rfl (.inl rfl) rfl pt_78 (rfl : _ = false)) ?_
  refine oNil ?_
  refine aCondF rfl ?_
  refine aSkip ?_
  refine aSeq ?_
  refine aReg ?_
  refine sp pM ?_
  refine sp pNs ?_
  refine sp (pFs fd_109_0) ?_
  refine sr (rS1 ty_3) ?_
  refine sp pMa ?_
  refine oNil ?_
  refine aRet ?_
  exact ⟨_, [], [], rfl, .nil, rfl, rfl⟩

/- disk.Disk).Dead -/
set_option maxRecDepth 100000 in
set_option maxHeartbeats 400000 in
theorem disk_Dead_s (n a : Int) (x y : AV) (d : Bool) : Triple Try.prog 55 [.sp [.int n, x, y, .int a, .v (.bool d)]] [] (fun r h' => r = .v (.bool (n == 0 || d)) ∧ h' = []) := by
  refine triple_of Try.func55 rfl (by kernel_rfl) rfl (by simp) ?_
  refine aSeq ?_
  refine aReg ?_
  refine sp pMa ?_
  refine oNil ?_
  refine aSeq ?_
  refine aReg ?_
  refine sp pM ?_
  refine sq ?_
  refine qCall0 rfl rfl (by decide) rfl rfl (disk_off_s _ _ _ _ _) ?_
  rintro _ _ ⟨rfl, rfl⟩
  refine sp pMa ?_
  refine oNil ?_
  refine aRet ?_
  exact ⟨_, [], [], rfl, .nil, rfl, rfl⟩

/- disk.New -/
set_option maxRecDepth 100000 in
set_option maxHeartbeats 400000 in
theorem disk_New0 (n : Int) : Triple Try.prog 43 [.int n] [] (fun q h' => (¬ (1 ≤ n ∧ n ≤ 1024) ∧ q = .tup [.v (.pointer none), .int 1] ∧ h' = []) ∨ ((1 ≤ n ∧ n ≤ 1024) ∧ ∃ db bs bw, q = .tup [.v (.pointer (some ⟨db, 0, none⟩)), .int 0] ∧ h' = [.box db [.int n, .v (.map (some bs)), .v (.map (some bw)), .int (-1), .v (.bool false)], .map bs [], .map bw []])) := by
  refine triple_of Try.func43 rfl (by kernel_rfl) rfl (by simp) ?_
  refine aSeq ?_
  refine aReg ?_
  refine sp pMa ?_
  refine sp pMa ?_
  refine oNil ?_
  refine aSeq ?_
  refine aSeq ?_
  refine aReg ?_
  refine sp pM ?_
  refine sp pB ?_
  refine sp pM ?_
  refine oSplitDec 6 rfl (fun c6 => ?_) (fun c6 => ?_)
  · skip
    refine gf ?_
    refine gf ?_
    refine sp pK ?_
    refine oNil ?_
    refine aCondT rfl ?_
    refine aSeq ?_
    refine aReg ?_
    refine sp pMa ?_
    refine sp pMa ?_
    refine oNil ?_
    refine aRet ?_
    exact ⟨_, [], _, rfl, .nil, .inl ⟨by omega, rfl, rfl⟩⟩
  · skip
    refine gp pM ?_
    refine gp pB ?_
    refine sp pK ?_
    refine oNil ?_
    refine aCondDec rfl (fun c9 => ?_) (fun c9 => ?_)
    · skip
      refine aSeq ?_
      refine aReg ?_
      refine sp pMa ?_
      refine sp pMa ?_
      refine oNil ?_
      refine aRet ?_
      exact ⟨_, [], _, rfl, .nil, .inl ⟨by omega, rfl, rfl⟩⟩
    · skip
      refine aSkip ?_
      refine aSeq ?_
      refine aReg ?_
      refine sp pM ?_
      refine sq ?_
      refine qMakeMap rfl rfl (by decide) (fun b11 => ?_)
      refine sq ?_
      refine qMakeMap rfl rfl (by decide) (fun b12 => ?_)
      refine sp (pBuild rfl st_109 ze_109 rfl rfl rfl rfl) ?_
      refine sq ?_
      refine qBox rfl rfl (by decide) rfl rfl (fun b14 => ?_)
      refine sp pMa ?_
      refine sp pMa ?_
      refine oNil ?_
      refine aRet ?_
      exact ⟨_, [_, _, _], [], rfl, .cons .hd (.cons (.tl .hd) (.cons .hd .nil)), .inr ⟨by omega, b14, b11, b12, rfl, rfl⟩⟩

theorem disk_New (n : Nat) (h1 : 1 ≤ n) (h2 : n ≤ 1024) : Triple Try.prog 43 [.int n] [] (fun q h' => ∃ db bs bw, q = .tup [.v (.pointer (some ⟨db, 0, none⟩)), .int 0] ∧ h' = [.box db [.int n, .v (.map (some bs)), .v (.map (some bw)), .int (DW.new n).armed, .v (.bool (DW.new n).dead)], .map bs (kvA []), .map bw (kvA [])]) :=
  (disk_New0 n).mono fun q h' hq => by
    rcases hq with ⟨h, _⟩ | ⟨_, h⟩
    · omega
    · exact h
theorem disk_New_no (n : Int) (h : ¬ (1 ≤ n ∧ n ≤ 1024)) : Triple Try.prog 43 [.int n] [] (fun q h' => q = .tup [.v (.pointer none), .int 1] ∧ h' = []) :=
  (disk_New0 n).mono fun q h' hq => by
    rcases hq with ⟨_, h⟩ | ⟨h2, _⟩
    · exact h
    · exact absurd h2 h
theorem flat_bool (b : Bool) : Flat (.v (.bool b)) := .v _

/- waymarklaw03.Like -/
def law03_Like_r1_T : Bool × List (List Nat × List Nat) := (true, [([], []), ([0], [0]), ([1], [1]), ([2], [2]), ([3, 2, 2], [2, 3]), ([2], [2]), ([5, 2], [2, 5]), ([4, 6, 2], [2, 4, 6]), ([2, 7], [2, 7]), ([8, 4], [8]), ([9], [9]), ([10, 9, 9], [9, 10]), ([9], [9]), ([12, 9], [9, 12]), ([13, 9], [9, 13]), ([11, 14, 9], [9, 11, 14]), ([9, 15], [9, 15])])
def law03_Like_r1_B : List Nat := [0, 1, 3, 7, 15, 7, 39, 127, 255, 511, 1023, 2047, 1023, 5119, 13311, 32767, 65535]
theorem law03_Like_r1_t : Go.Proofs.YtkgemkadebgeoaaW.PrintLast.rtab .any (Go.Proofs.YtkgemkadebgeoaaW.PrintLast.opsOf Try.f52 1) = law03_Like_r1_T := by kernel_rfl
theorem law03_Like_r1_b : Go.Proofs.YtkgemkadebgeoaaW.PrintLast.waitsOk law03_Like_r1_T.2 law03_Like_r1_B = true := by kernel_rfl
def law03_Like_r3_T : Bool × List (List Nat × List Nat) := (true, [([], []), ([0], [0]), ([], []), ([2, 1], [2]), ([1, 3, 0, 1], [1]), ([3, 4, 0, 1, 2, 3, 4], [3])])
def law03_Like_r3_B : List Nat := [0, 1, 0, 7, 15, 31]
theorem law03_Like_r3_t : Go.Proofs.YtkgemkadebgeoaaW.PrintLast.rtab .any (Go.Proofs.YtkgemkadebgeoaaW.PrintLast.opsOf Try.f52 3) = law03_Like_r3_T := by kernel_rfl
theorem law03_Like_r3_b : Go.Proofs.YtkgemkadebgeoaaW.PrintLast.waitsOk law03_Like_r3_T.2 law03_Like_r3_B = true := by kernel_rfl
def law03_Like_r9_T : Bool × List (List Nat × List Nat) := (true, [([], []), ([], []), ([0, 1], [0, 1]), ([2], [2]), ([], []), ([], []), ([4, 5], [4, 5]), ([6], [6]), ([3, 7], [3, 7])])
def law03_Like_r9_B : List Nat := [0, 0, 3, 7, 0, 0, 48, 112, 255]
theorem law03_Like_r9_t : Go.Proofs.YtkgemkadebgeoaaW.PrintLast.rtab .any (Go.Proofs.YtkgemkadebgeoaaW.PrintLast.opsOf Try.f52 9) = law03_Like_r9_T := by kernel_rfl
theorem law03_Like_r9_b : Go.Proofs.YtkgemkadebgeoaaW.PrintLast.waitsOk law03_Like_r9_T.2 law03_Like_r9_B = true := by kernel_rfl
set_option maxRecDepth 100000 in
set_option maxHeartbeats 2000000 in
theorem law03_Like (db bs bw n : Nat) (S W : List (Int × BS)) (w : DW) (r : Rel n S W w) : Triple Try.prog 52 [.v (.pointer (some ⟨db, 0, none⟩)), .agg (dwC w)] [.box db [.int n, .v (.map (some bs)), .v (.map (some bw)), .int w.armed, .v (.bool w.dead)], .map bs (kvA S), .map bw (kvA W)] (fun q h' => q = .v (.bool true) ∧ h' = [.box db [.int n, .v (.map (some bs)), .v (.map (some bw)), .int w.armed, .v (.bool w.dead)], .map bs (kvA S), .map bw (kvA W)]) := by
  have f := r.fit
  have hsn := r.sn
  have hn1 := r.n1
  have hn2 := r.n2
  have hwl := r.wl
  refine triple_of Try.func52 rfl (by kernel_rfl) rfl (by simp) ?_
  refine aSeq ?_
  refine aReg ?_
  refine sq ?_
  refine qBox rfl rfl (by decide) rfl rfl (fun b3 => ?_)
  refine sp pMa ?_
  refine oNil ?_
  refine aSeq ?_
  refine aSeq ?_
  have hdd : (if (BinOp.neq = BinOp.eql) then (((n : Int) == 0 || w.dead) == w.dead) else !(((n : Int) == 0 || w.dead) == w.dead)) = false := by rw [show ((n : Int) == 0) = false by simp; omega, if_neg (by decide)]; simp
  have hsz : (.bool ((n : Int) != (w.safe.length : Int)) : Value) = .bool false := by rw [hsn]; simp
  refine aDrawT law03_Like_r1_t law03_Like_r1_b [] 17 #[false, false, false, false, false, false, false, false, false, false, false, false, false, false, false, false, false] (by kernel_rfl) rfl rfl (fun HT => ?_)
  refine dp HT 0 rfl pM ?_
  refine dp HT 1 rfl (by first | exact pPtrNil rfl (.inl rfl) rfl pt_78 rfl (rfl : _ = false) | exact pSpNil rfl (.inl rfl) rfl pt_78 (rfl : _ = false)) ?_
  refine dp HT 2 rfl pM ?_
  refine dpG HT 3 rfl pM ?_
  refine dpG HT 5 rfl (pFb fd_83_3) ?_
  refine drG HT 6 rfl (rB1 ty_4) ?_
  refine dGo ?_
  refine e1G HT 4 rfl ?_
  refine qCallV rfl rfl (by decide) rfl rfl (.cons (.sp (by simp)) .nil) (disk_Dead_s n w.armed (.v (.map (some bs))) (.v (.map (some bw))) w.dead) ?_
  refine efG HT 7 rfl (pEqB rfl (.inr rfl) rfl rfl bo_4 hdd) ?_
  refine ef HT 8 rfl pK ?_
  refine ef HT 9 rfl pM ?_
  refine epG HT 10 rfl pM ?_
  refine epG HT 12 rfl (pFb fd_83_0) ?_
  refine erG HT 13 rfl (rB1 ty_81) ?_
  refine epG HT 14 rfl (by first | exact pLm sl_81 | exact pLs sl_81 | exact pLv sl_81) ?_
  refine e1G HT 11 rfl ?_
  refine qCallV rfl rfl (by decide) rfl rfl (.cons (.sp (by simp)) .nil) (disk_Size_s n w.armed (.v (.map (some bs))) (.v (.map (some bw))) w.dead) ?_
  refine efG HT 15 rfl (pBin rfl rfl rfl rfl hsz) ?_
  refine ef HT 16 rfl pK ?_
  refine eE HT ?_
  clear HT
  refine aCondF rfl ?_
  refine aSkip ?_
  refine aSeq ?_
  refine aDrawS (h1 := [.box b3 _]) law03_Like_r3_t law03_Like_r3_b [3] 6 #[false, false, false, false, false, false] (by kernel_rfl) rfl rfl (.cons .hd .nil) (fun HT => ?_)
  refine ep HT 0 rfl pM ?_
  refine er HT 2 rfl (by first | exact rBW ty_83 | exact rBA ty_83) ?_
  refine eOneS (i := 1) #[true, true, true, false, false, false] rfl (HT.one (by kernel_rfl)) (by decide) ?_
  · skip
    refine stA (hx := [.box db [.int n, .v (.map (some bs)), .v (.map (some bw)), .int w.armed, .v (.bool w.dead)], .map bs (kvA S), .map bw (kvA W)]) (wantN rfl) (fun t ht => by cases ht <;> decide) (.cons (by repeat constructor) (.cons (by repeat constructor) (.cons (by repeat constructor) .nil))) (by repeat constructor) ?_
    refine aCall rfl rfl (by decide) rfl rfl tk_refl (disk_Waits db bs bw n S W w r) ?_
    rintro _ _ ⟨g29, c29, rfl, rfl⟩
    refine undel (d := 29) rfl ?_
    dsimp only [List.cons_append, List.nil_append]
    refine eSettle (k := 29) rfl .hd (natsA_len _).symm ?_
    refine eLast ?_
    refine f1 HT 3 rfl ?_
    refine aCall rfl rfl (by decide) rfl rfl .nil (ref03_Waiting w f) ?_
    rintro _ _ ⟨g31, c31, rfl, rfl⟩
    refine fWeak (weak_settle (k := 31) rfl .hd (natsA_len _).symm) ?_
    refine fp HT 4 rfl pMa ?_
    refine fp HT 5 rfl pMa ?_
    refine fE HT ?_
    clear HT
    refine aSeq ?_
    refine aSeq ?_
    refine aReg ?_
    refine sp pM ?_
    refine sp (pLenS' (pLenS rfl rfl sl_103) (natsA_len _)) ?_
    refine sp pM ?_
    refine sp (pLenS' (pLenS rfl rfl sl_103) (natsA_len _)) ?_
    refine sp (pBin rfl rfl rfl rfl (by simp : _ = Value.bool false)) ?_
    refine oNil ?_
    refine aCondF rfl ?_
    refine aSkip ?_
    refine aSeq ?_
    refine aSeq ?_
    refine aReg ?_
    refine sp pMa ?_
    refine oNil ?_
    refine aBlock ?_
    refine aLoopI (α := Nat) (fun i => i ≤ w.waiting.length) (fun i => ([(0, .v (.pointer (some ⟨db, 0, none⟩))), (3, .v (.pointer (some ⟨b3, 0, none⟩))), (5, .sl 1 (natsA w.waiting)), (6, .sl 1 (natsA w.waiting)), (7, .int i)], .box b3 (dwC w) :: [.box db [.int n, .v (.map (some bs)), .v (.map (some bw)), .int w.armed, .v (.bool w.dead)], .map bs (kvA S), .map bw (kvA W)])) (fun i => w.waiting.length - i) 0 ?_ ?_ ?_
    · skip
      omega
    · skip
      exact weak_sub ⟨rfl, rfl, rfl, rfl, rfl, trivial⟩ (.cons (by repeat constructor) (.cons (by repeat constructor) (.cons (by repeat constructor) (.cons (by repeat constructor) .nil))))
    · rintro i hi
      skip
      refine aSeq ?_
      refine aSeq ?_
      refine aReg ?_
      refine sp pM ?_
      refine sp pM ?_
      refine sp (pLenS' (pLenS rfl rfl sl_103) (natsA_len _)) ?_
      refine sp pB ?_
      refine oNil ?_
      refine aCondDec rfl (fun c40 => ?_) (fun c40 => ?_)
      · skip
        refine aSkip ?_
        refine aSeq ?_
        refine aBlock ?_
        refine aSeq ?_
        obtain ⟨q, hq⟩ : ∃ q, w.waiting[i]? = some q := ⟨_, List.getElem?_eq_getElem (by omega)⟩
        refine aDrawT law03_Like_r9_t law03_Like_r9_b [] 9 #[false, false, false, false, false, false, false, false, false] (by kernel_rfl) rfl rfl (fun HT => ?_)
        refine dp HT 0 rfl pM ?_
        refine dp HT 1 rfl pM ?_
        refine dp HT 2 rfl (pIdxS rfl rfl rfl es_103 (by omega) (waitA_get hq)) ?_
        refine dr HT 3 rfl (by first | exact rS1 ty_3 | exact rB1 ty_3) ?_
        refine dp HT 4 rfl pM ?_
        refine dp HT 5 rfl pM ?_
        refine dp HT 6 rfl (pIdxS rfl rfl rfl es_103 (by omega) (waitA_get hq)) ?_
        refine dr HT 7 rfl (by first | exact rS1 ty_3 | exact rB1 ty_3) ?_
        refine dp HT 8 rfl (pBin rfl rfl rfl rfl (by simp : _ = Value.bool false)) ?_
        refine dE HT ?_
        clear HT
        refine aCondF rfl ?_
        refine aSkip ?_
        refine aReg ?_
        refine sp pM ?_
        refine sp pAd ?_
        refine sp pMa ?_
        refine oNil ?_
        exact ⟨i + 1, by show i + 1 ≤ _; omega, by show w.waiting.length - (i + 1) < w.waiting.length - i; omega, weak_sub ⟨rfl, rfl, rfl, rfl, gInt rfl (by simp), trivial⟩ tk_refl⟩
      · skip
        refine aExit rfl ?_
        refine aSeq ?_
        refine aSeq ?_
        refine aReg ?_
        refine sp pMa ?_
        refine oNil ?_
        refine aBlock ?_
        refine aLoopI (α := Nat) (fun i => i ≤ w.safe.length) (fun i => ([(0, .v (.pointer (some ⟨db, 0, none⟩))), (3, .v (.pointer (some ⟨b3, 0, none⟩))), (5, .sl 1 (natsA w.waiting)), (6, .sl 1 (natsA w.waiting)), (8, .int i)], .box b3 (dwC w) :: [.box db [.int n, .v (.map (some bs)), .v (.map (some bw)), .int w.armed, .v (.bool w.dead)], .map bs (kvA S), .map bw (kvA W)])) (fun i => w.safe.length - i) 0 ?_ ?_ ?_
        · skip
          omega
        · skip
          exact weak_sub ⟨rfl, rfl, rfl, rfl, rfl, trivial⟩ tk_refl
        · rintro i hi
          skip
          refine aSeq ?_
          refine aSeq ?_
          refine aReg ?_
          refine sp pM ?_
          refine sp (by first | exact pFb fd_83_0 | exact pFs fd_83_0) ?_
          refine sr (by first | exact rS1 ty_81 | exact rB1 ty_81) ?_
          refine sp (by first | exact pLm sl_81 | exact pLs sl_81 | exact pLv sl_81) ?_
          refine sp pB ?_
          refine oNil ?_
          refine aCondDec rfl (fun c56 => ?_) (fun c56 => ?_)
          · skip
            refine aSkip ?_
            refine aSeq ?_
            refine aBlock ?_
            refine aSeq ?_
            refine aReg ?_
            refine sp pM ?_
            refine sp pM ?_
            refine sa ?_
            refine aCall rfl rfl (by decide) rfl rfl (.cons (by repeat constructor) (.cons (by repeat constructor) (.cons (by repeat constructor) .nil))) (disk_Read db bs bw n i S W w r) ?_
            rintro _ _ ⟨g, c, rfl, rfl⟩
            refine sp pM ?_
            refine sp pX ?_
            refine sp pX ?_
            refine sp pMa ?_
            refine sp pMa ?_
            refine oNil ?_
            refine aSeq ?_
            have hr1 : w.dead = true → w.read i = ([], 7) := fun h => read_dead h
            have hr2 : w.dead = false → w.read i = (w.get i, 0) := fun h => by rw [read_ok h (by omega) (by omega), Int.toNat_natCast]
            refine aReg ?_
            refine sp (by first | exact pFb fd_83_3 | exact pFs fd_83_3) ?_
            refine sr (by first | exact rS1 ty_4 | exact rB1 ty_4) ?_
            refine sp pM ?_
            refine oSplit 67 rfl (fun c67 => ?_) (fun c67 => ?_)
            · skip
              refine gp pM ?_
              refine gp pB ?_
              refine gp pM ?_
              refine oSplitNe 70 rfl (fun c70 => ?_) (fun c70 => ?_)
              · skip
                refine gf ?_
                refine gf ?_
                refine gf ?_
                refine gp pK ?_
                refine sp pK ?_
                refine sp pM ?_
                refine gf ?_
                refine gf ?_
                refine gf ?_
                refine gf ?_
                refine gf ?_
                refine gf ?_
                refine gf ?_
                refine gf ?_
                refine gf ?_
                refine gf ?_
                refine gf ?_
                refine gf ?_
                refine gf ?_
                refine gf ?_
                refine gf ?_
                refine sp pK ?_
                refine oNil ?_
                refine aCondT rfl ?_
                refine aSeq ?_
                refine aReg ?_
                refine sp pMa ?_
                refine oNil ?_
                refine aRet ?_
                exfalso
                cases hd : w.dead
                · have := hr2 hd
                  simp_all
                · have := hr1 hd
                  simp_all
              · skip
                refine gp pM ?_
                refine gp (pLenV rfl rfl sl_48) ?_
                refine gp pB ?_
                refine gp pK ?_
                refine sp pK ?_
                refine sp pM ?_
                refine oSplitNe 76 rfl (fun c76 => ?_) (fun c76 => ?_)
                · skip
                  refine gf ?_
                  refine gf ?_
                  refine gf ?_
                  refine gf ?_
                  refine gf ?_
                  refine gf ?_
                  refine gf ?_
                  refine gf ?_
                  refine gf ?_
                  refine gf ?_
                  refine gf ?_
                  refine gf ?_
                  refine gf ?_
                  refine gf ?_
                  refine gf ?_
                  refine sp pK ?_
                  refine oNil ?_
                  refine aCondT rfl ?_
                  refine aSeq ?_
                  refine aReg ?_
                  refine sp pMa ?_
                  refine oNil ?_
                  refine aRet ?_
                  exfalso
                  cases hd : w.dead
                  · have := hr2 hd
                    simp_all
                  · have := hr1 hd
                    simp_all
                · skip
                  refine gp (by first | exact pFb fd_83_3 | exact pFs fd_83_3) ?_
                  refine gr (by first | exact rS1 ty_4 | exact rB1 ty_4) ?_
                  refine gp pNo ?_
                  refine gp pM ?_
                  refine oSplitNot 80 rfl (fun c80 => ?_) (fun c80 => ?_)
                  · skip
                    refine gp pM ?_
                    refine gp pB ?_
                    refine gp pM ?_
                    refine oSplitNe 83 rfl (fun c83 => ?_) (fun c83 => ?_)
                    · skip
                      refine gf ?_
                      refine gf ?_
                      refine gf ?_
                      refine gf ?_
                      refine gf ?_
                      refine gf ?_
                      refine gp pK ?_
                      refine gp pK ?_
                      refine sp pK ?_
                      refine oNil ?_
                      refine aCondT rfl ?_
                      refine aSeq ?_
                      refine aReg ?_
                      refine sp pMa ?_
                      refine oNil ?_
                      refine aRet ?_
                      exfalso
                      cases hd : w.dead
                      · have := hr2 hd
                        simp_all
                      · have := hr1 hd
                        simp_all
                    · skip
                      refine gp pM ?_
                      refine gr (by first | exact rSW ty_83 rfl | exact rSA ty_83 | exact rBW ty_83 | exact rBA ty_83) ?_
                      refine gp pM ?_
                      refine ga ?_
                      refine (qCall0 rfl rfl (by decide) rfl rfl (ref03_Get w i f (by omega)) ?_).op
                      rintro _ _ ⟨rfl, rfl⟩
                      refine ga ?_
                      refine (qCallV rfl rfl (by decide) rfl rfl (.cons (.sl List.mem_cons_self (by simp)) (.cons (.same _) .nil)) (ref01_Same (w.read i).1 (w.get i) (by have := r.read_len i; omega) (by have := r.g512 (i := i) (by omega); omega)) ?_).op
                      refine gp pNo ?_
                      refine gp pK ?_
                      refine gp pK ?_
                      refine sp pK ?_
                      refine oNil ?_
                      refine aCondNot rfl (fun c92 => ?_) (fun c92 => ?_)
                      · skip
                        refine aSeq ?_
                        refine aReg ?_
                        refine sp pMa ?_
                        refine oNil ?_
                        refine aRet ?_
                        exfalso
                        cases hd : w.dead
                        · have := hr2 hd
                          simp_all
                        · have := hr1 hd
                          simp_all
                      · skip
                        refine aSkip ?_
                        refine aReg ?_
                        refine sp pM ?_
                        refine sp pAd ?_
                        refine sp pMa ?_
                        refine oNil ?_
                        exact ⟨i + 1, by show i + 1 ≤ _; omega, by show w.safe.length - (i + 1) < w.safe.length - i; omega, weak_sub ⟨rfl, rfl, rfl, rfl, gInt rfl (by simp), trivial⟩ (.cons (by repeat constructor) (.cons (by repeat constructor) (.cons (by repeat constructor) (.cons (by repeat constructor) .nil))))⟩
                  · skip
                    refine gf ?_
                    refine gf ?_
                    refine gf ?_
                    refine gf ?_
                    refine gf ?_
                    refine gf ?_
                    refine gf ?_
                    refine gf ?_
                    refine gf ?_
                    refine gf ?_
                    refine gp pK ?_
                    refine sp pK ?_
                    refine oNil ?_
                    refine aCondF rfl ?_
                    refine aSkip ?_
                    refine aReg ?_
                    refine sp pM ?_
                    refine sp pAd ?_
                    refine sp pMa ?_
                    refine oNil ?_
                    exact ⟨i + 1, by show i + 1 ≤ _; omega, by show w.safe.length - (i + 1) < w.safe.length - i; omega, weak_sub ⟨rfl, rfl, rfl, rfl, gInt rfl (by simp), trivial⟩ (.cons (by repeat constructor) (.cons (by repeat constructor) (.cons (by repeat constructor) (.cons (by repeat constructor) .nil))))⟩
            · skip
              refine gf ?_
              refine gf ?_
              refine gf ?_
              refine gf ?_
              refine gf ?_
              refine gf ?_
              refine gf ?_
              refine sp pK ?_
              refine sp pM ?_
              refine gp (by first | exact pFb fd_83_3 | exact pFs fd_83_3) ?_
              refine gr (by first | exact rS1 ty_4 | exact rB1 ty_4) ?_
              refine gp pNo ?_
              refine gp pM ?_
              refine oSplitNot 80 rfl (fun c80 => ?_) (fun c80 => ?_)
              · skip
                refine gp pM ?_
                refine gp pB ?_
                refine gp pM ?_
                refine oSplitNe 83 rfl (fun c83 => ?_) (fun c83 => ?_)
                · skip
                  refine gf ?_
                  refine gf ?_
                  refine gf ?_
                  refine gf ?_
                  refine gf ?_
                  refine gf ?_
                  refine gp pK ?_
                  refine gp pK ?_
                  refine sp pK ?_
                  refine oNil ?_
                  refine aCondT rfl ?_
                  refine aSeq ?_
                  refine aReg ?_
                  refine sp pMa ?_
                  refine oNil ?_
                  refine aRet ?_
                  exfalso
                  cases hd : w.dead
                  · have := hr2 hd
                    simp_all
                  · have := hr1 hd
                    simp_all
                · skip
                  refine gp pM ?_
                  refine gr (by first | exact rSW ty_83 rfl | exact rSA ty_83 | exact rBW ty_83 | exact rBA ty_83) ?_
                  refine gp pM ?_
                  refine ga ?_
                  refine (qCall0 rfl rfl (by decide) rfl rfl (ref03_Get w i f (by omega)) ?_).op
                  rintro _ _ ⟨rfl, rfl⟩
                  refine ga ?_
                  refine (qCallV rfl rfl (by decide) rfl rfl (.cons (.sl List.mem_cons_self (by simp)) (.cons (.same _) .nil)) (ref01_Same (w.read i).1 (w.get i) (by have := r.read_len i; omega) (by have := r.g512 (i := i) (by omega); omega)) ?_).op
                  refine gp pNo ?_
                  refine gp pK ?_
                  refine gp pK ?_
                  refine sp pK ?_
                  refine oNil ?_
                  refine aCondNot rfl (fun c92 => ?_) (fun c92 => ?_)
                  · skip
                    refine aSeq ?_
                    refine aReg ?_
                    refine sp pMa ?_
                    refine oNil ?_
                    refine aRet ?_
                    exfalso
                    cases hd : w.dead
                    · have := hr2 hd
                      simp_all
                    · have := hr1 hd
                      simp_all
                  · skip
                    refine aSkip ?_
                    refine aReg ?_
                    refine sp pM ?_
                    refine sp pAd ?_
                    refine sp pMa ?_
                    refine oNil ?_
                    exact ⟨i + 1, by show i + 1 ≤ _; omega, by show w.safe.length - (i + 1) < w.safe.length - i; omega, weak_sub ⟨rfl, rfl, rfl, rfl, gInt rfl (by simp), trivial⟩ (.cons (by repeat constructor) (.cons (by repeat constructor) (.cons (by repeat constructor) (.cons (by repeat constructor) .nil))))⟩
              · skip
                refine gf ?_
                refine gf ?_
                refine gf ?_
                refine gf ?_
                refine gf ?_
                refine gf ?_
                refine gf ?_
                refine gf ?_
                refine gf ?_
                refine gf ?_
                refine gp pK ?_
                refine sp pK ?_
                refine oNil ?_
                refine aCondF rfl ?_
                refine aSkip ?_
                refine aReg ?_
                refine sp pM ?_
                refine sp pAd ?_
                refine sp pMa ?_
                refine oNil ?_
                exact ⟨i + 1, by show i + 1 ≤ _; omega, by show w.safe.length - (i + 1) < w.safe.length - i; omega, weak_sub ⟨rfl, rfl, rfl, rfl, gInt rfl (by simp), trivial⟩ (.cons (by repeat constructor) (.cons (by repeat constructor) (.cons (by repeat constructor) (.cons (by repeat constructor) .nil))))⟩
          · skip
            refine aExit rfl ?_
            refine aSeq ?_
            refine aReg ?_
            refine sp pMa ?_
            refine oNil ?_
            refine aRet ?_
            exact ⟨_, [_, _, _], [_], rfl, .cons (.tl .hd) (.cons (.tl .hd) (.cons (.tl .hd) .nil)), rfl, rfl⟩

end A
end Go.Proofs.Ytkgemkadebgeoaa
