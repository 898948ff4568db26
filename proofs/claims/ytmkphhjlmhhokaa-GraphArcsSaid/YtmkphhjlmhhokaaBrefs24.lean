/- What functions of the program compute: refs24 -/
import Derived.Test.YtmkphhjlmhhokaaBarcs
import Derived.Test.YtmkphhjlmhhokaaProg
import Derived.KernelRfl
set_option linter.unusedVariables false
set_option linter.unusedSimpArgs false
namespace Go.Proofs.Ytmkphhjlmhhokaa
namespace A

def lightB (db : List Lsa) : Bool := decide (db.length ≤ 70) && db.all (fun x => decide (x.ls.length ≤ 40))
theorem all_take {α : Type} {p : α → Bool} {l : List α} {i : Nat} {a : α} (h : l[i]? = some a) : (l.take (i + 1)).all p = ((l.take i).all p && p a) := by rw [take_step h]; simp
theorem all_not {α : Type} {p : α → Bool} {l : List α} {i : Nat} {a : α} (h : l[i]? = some a) (hp : p a = false) : l.all p = false := by
  cases hq : l.all p with
  | false => rfl
  | true => rw [List.all_eq_true] at hq; rw [hq a (List.mem_of_getElem? h)] at hp; cases hp
theorem light_len {db : List Lsa} (h : lightB db = true) : db.length ≤ 70 := by simp only [lightB, Bool.and_eq_true, decide_eq_true_eq] at h; exact h.1
theorem light_mem {db : List Lsa} (h : lightB db = true) {x : Lsa} (hx : x ∈ db) : x.ls.length ≤ 40 := by simp only [lightB, Bool.and_eq_true, List.all_eq_true, decide_eq_true_eq] at h; exact h.2 x hx
def prevT (ls : List Link) (i : Nat) : Int := match prevA ls i with | none => 0 | some x => x.t
def prevO (db : List Lsa) (i : Nat) : Int := match prevA db i with | none => 0 | some x => x.o
theorem prevT_succ {l : List Link} {i : Nat} {a : Link} (h : l[i]? = some a) : prevT l (i + 1) = a.t := by rw [prevT, prevA_succ h]
theorem prevO_succ {l : List Lsa} {i : Nat} {a : Lsa} (h : l[i]? = some a) : prevO l (i + 1) = a.o := by rw [prevO, prevA_succ h]
theorem prevT_eq {l : List Link} {i : Nat} {a : Link} (hi : 0 < i) (h : l[i - 1]? = some a) : prevT l i = a.t := by simp [prevT, prevA, h, show i ≠ 0 by omega]
theorem prevO_eq {l : List Lsa} {i : Nat} {a : Lsa} (hi : 0 < i) (h : l[i - 1]? = some a) : prevO l i = a.o := by simp [prevO, prevA, h, show i ≠ 0 by omega]
theorem prevT_zero {l : List Link} {i : Nat} (hi : i = 0) : prevT l i = 0 := by subst hi; rfl
theorem prevO_zero {l : List Lsa} {i : Nat} (hi : i = 0) : prevO l i = 0 := by subst hi; rfl
def refGet (db : List Lsa) (n : Int) : Lsa := (db.find? (fun l => l.o == n)).getD ⟨0, 0, []⟩
def refArc (db : List Lsa) (l : Lsa) (x : Link) : Option Arc := if 0 < costL (refGet db x.t).ls l.o then some ⟨l.o, x.t, x.c⟩ else none
def refArcs (db : List Lsa) (l : Lsa) : List Arc := l.ls.filterMap (refArc db l)
def refAll (db : List Lsa) : List Arc := db.flatMap (refArcs db)

/- waymarklaw09.Light -/
set_option maxRecDepth 100000 in
set_option maxHeartbeats 400000 in
theorem law09_Light (l : Lsa) : Triple Try.prog 31 [AV.agg (lsaC l)] [] (fun r h' => r = .v (.bool (decide (l.ls.length ≤ 40))) ∧ h' = []) := by
  refine triple_of Try.func31 rfl (by kernel_rfl) rfl (by simp) ?_
  refine aSeq ?_
  refine aReg ?_
  refine oQ rfl ?_
  refine qBox rfl rfl (by decide) rfl rfl (fun b1 => ?_)
  refine oP rfl (by exact pMv (.inr rfl) rfl) rfl (by decide) ?_
  refine oNil ?_
  refine aSeq ?_
  refine aReg ?_
  refine oP rfl (by first | exact pFldB rfl rfl fd_52_2 | exact pFldS rfl rfl fd_52_2) rfl (by decide) ?_
  refine oR rfl (by first | exact rLdS1 rfl rfl ty_50 rfl | exact rLdB1 rfl rfl (by repeat constructor) ty_50 rfl) rfl (by decide) ?_
  refine oP rfl (by first | exact pLenS' (pLenS rfl rfl sl_50) (List.length_map _) | exact pLenS rfl rfl sl_50 | exact pLenV rfl rfl sl_50) rfl (by decide) ?_
  refine oP rfl (by exact pBin rfl rfl rfl rfl rfl) rfl (by decide) ?_
  refine oP rfl (by exact pMv (.inr rfl) rfl) rfl (by decide) ?_
  refine oNil ?_
  refine aRet ?_
  refine ⟨_, [], _, rfl, .nil, ?_, rfl⟩
  simp [retOf]
  omega

/- waymarklaw19.Light -/
set_option maxRecDepth 100000 in
set_option maxHeartbeats 400000 in
theorem law19_Light (db : List Lsa) : Triple Try.prog 10 [AV.sl 3 (db.map lsaC)] [] (fun r h' => r = .v (.bool (lightB db)) ∧ h' = []) := by
  refine triple_of Try.func10 rfl (by kernel_rfl) rfl (by simp) ?_
  refine aSeq ?_
  refine aReg ?_
  refine oP rfl (by exact pMv (.inr rfl) rfl) rfl (by decide) ?_
  refine oNil ?_
  refine aSeq ?_
  refine aSeq ?_
  refine aReg ?_
  refine oP rfl (by exact pMv (.inr rfl) rfl) rfl (by decide) ?_
  refine oNil ?_
  refine aBlock ?_
  refine aLoopI (α := Nat) (fun i => i ≤ db.length ∧ i ≤ 71 ∧ (db.take i).all (fun x => decide (x.ls.length ≤ 40)) = true) (fun i => ([(0, AV.sl 3 (db.map lsaC)), (3, .int i)], [])) (fun i => db.length - i) 0 ?_ ?_ ?_
  · skip
    exact ⟨by omega, by omega, by simp⟩
  · skip
    exact weak_sub ⟨rfl, gInt rfl (by simp), trivial⟩ .nil
  · rintro i ⟨hi, hj, hv⟩
    skip
    refine aSeq ?_
    refine aSeq ?_
    refine aReg ?_
    refine oP rfl (by exact pMv (.inl rfl) rfl) rfl (by decide) ?_
    refine oP rfl (by exact pMv (.inl rfl) rfl) rfl (by decide) ?_
    refine oP rfl (by first | exact pLenS' (pLenS rfl rfl sl_29) (List.length_map _) | exact pLenS rfl rfl sl_29 | exact pLenV rfl rfl sl_29) rfl (by decide) ?_
    refine oP rfl (by exact pBin rfl rfl rfl rfl rfl) rfl (by decide) ?_
    refine oP rfl (by exact pMv (.inl rfl) rfl) rfl (by decide) ?_
    refine oSplitDec 8 rfl (fun c8 => ?_) (fun c8 => ?_)
    · skip
      refine oGP rfl rfl rfl rfl (by exact pMv (.inl rfl) rfl) rfl (by decide) ?_
      refine oGP rfl rfl rfl rfl (by exact pBin rfl rfl rfl rfl rfl) rfl (by decide) ?_
      refine oP rfl (by exact pPick rfl rfl rfl) rfl (by decide) ?_
      refine oNil ?_
      refine aCondDec rfl (fun c11 => ?_) (fun c11 => ?_)
      · skip
        refine aSkip ?_
        refine aSeq ?_
        refine aBlock ?_
        refine aSeq ?_
        refine aReg ?_
        refine oP rfl (by exact pMv (.inl rfl) rfl) rfl (by decide) ?_
        refine oP rfl (by exact pMv (.inl rfl) rfl) rfl (by decide) ?_
        obtain ⟨a, ha⟩ : ∃ a, db[i]? = some a := ⟨_, List.getElem?_eq_getElem (by omega)⟩
        refine oP rfl (by exact pIdxS rfl rfl rfl es_29 (by omega) (map_get (f := lsaC) ha)) rfl (by decide) ?_
        refine oR rfl (by first | exact rLdSA rfl rfl ty_52 (Nat.le_of_ble_eq_true rfl) | exact rLdBA rfl rfl (by repeat constructor) ty_52 (Nat.le_of_ble_eq_true rfl)) rfl (by decide) ?_
        refine oQ rfl ?_
        refine qCallV rfl rfl (by decide) rfl rfl (lents_refl _) (law09_Light _) ?_
        refine oP rfl (by exact pNot rfl rfl) rfl (by decide) ?_
        refine oNil ?_
        refine aCondNot rfl (fun c19 => ?_) (fun c19 => ?_)
        · skip
          refine aSeq ?_
          refine aReg ?_
          refine oP rfl (by exact pMv (.inr rfl) rfl) rfl (by decide) ?_
          refine oNil ?_
          refine aRet ?_
          refine ⟨_, [], _, rfl, .nil, ?_, rfl⟩
          show AV.v (.bool false) = _
          have hn := all_not (p := fun x : Lsa => decide (x.ls.length ≤ 40)) ha (by simp_all)
          simp [lightB, hn]
        · skip
          refine aSkip ?_
          refine aReg ?_
          refine oP rfl (by exact pMv (.inl rfl) rfl) rfl (by decide) ?_
          refine oP rfl (by exact pAdd rfl rfl rfl (by omega) (by omega)) rfl (by decide) ?_
          refine oP rfl (by exact pMv (.inr rfl) rfl) rfl (by decide) ?_
          refine oNil ?_
          refine ⟨i + 1, ⟨by omega, by omega, ?_⟩, by show db.length - (i + 1) < db.length - i; omega, weak_sub ⟨rfl, gInt rfl (by simp), trivial⟩ .nil⟩
          rw [all_take ha, hv]
          simp_all
      · skip
        refine aExit rfl ?_
        refine aSeq ?_
        refine aReg ?_
        refine oP rfl (by exact pMv (.inl rfl) rfl) rfl (by decide) ?_
        refine oP rfl (by first | exact pLenS' (pLenS rfl rfl sl_29) (List.length_map _) | exact pLenS rfl rfl sl_29 | exact pLenV rfl rfl sl_29) rfl (by decide) ?_
        refine oP rfl (by exact pBin rfl rfl rfl rfl rfl) rfl (by decide) ?_
        refine oP rfl (by exact pMv (.inr rfl) rfl) rfl (by decide) ?_
        refine oNil ?_
        refine aRet ?_
        refine ⟨_, [], _, rfl, .nil, ?_, rfl⟩
        show AV.v (.bool _) = _
        by_cases hl : db.length ≤ 70
        · rw [show i = db.length by omega, List.take_length] at hv
          simp [lightB, hl, hv]
          omega
        · simp [lightB, hl]
          omega
    · skip
      refine oGF rfl rfl rfl rfl rfl (by decide) ?_
      refine oGF rfl rfl rfl rfl rfl (by decide) ?_
      refine oP rfl (by exact pPick rfl rfl rfl) rfl (by decide) ?_
      refine oNil ?_
      refine aCondF rfl ?_
      refine aExit rfl ?_
      refine aSeq ?_
      refine aReg ?_
      refine oP rfl (by exact pMv (.inl rfl) rfl) rfl (by decide) ?_
      refine oP rfl (by first | exact pLenS' (pLenS rfl rfl sl_29) (List.length_map _) | exact pLenS rfl rfl sl_29 | exact pLenV rfl rfl sl_29) rfl (by decide) ?_
      refine oP rfl (by exact pBin rfl rfl rfl rfl rfl) rfl (by decide) ?_
      refine oP rfl (by exact pMv (.inr rfl) rfl) rfl (by decide) ?_
      refine oNil ?_
      refine aRet ?_
      refine ⟨_, [], _, rfl, .nil, ?_, rfl⟩
      show AV.v (.bool _) = _
      by_cases hl : db.length ≤ 70
      · rw [show i = db.length by omega, List.take_length] at hv
        simp [lightB, hl, hv]
        omega
      · simp [lightB, hl]
        omega

/- waymarkref09.May -/
def ref09_May_r5_T : Bool × List (List Nat × List Nat) := (true, [([], []), ([0], [0]), ([1], [1]), ([2], [2]), ([3], [3]), ([4, 3], [3, 4]), ([5, 3], [3, 5]), ([3, 6], [3, 6]), ([7, 3], [7]), ([8], [8]), ([9, 8], [8, 9]), ([8], [8]), ([11, 8], [8, 11]), ([10, 12, 8], [8, 10, 12]), ([8, 13], [8, 13]), ([14, 8], [14]), ([15], [15]), ([16, 15], [15, 16]), ([17, 15], [15, 17]), ([15, 18], [15, 18]), ([19, 15], [19]), ([20], [20]), ([21, 20], [20, 21]), ([22, 20], [20, 22]), ([20, 23], [20, 23]), ([24, 20], [24]), ([25], [25]), ([26, 25], [25, 26]), ([27, 25, 25], [25, 27]), ([28], [28]), ([29, 28], [28, 29]), ([28], [28]), ([31, 28], [28, 31]), ([30, 32, 28], [28, 30, 32]), ([33, 28], [28, 33]), ([34, 28], [28, 34]), ([28], [28]), ([36, 28], [28, 36]), ([35, 37, 28], [28, 35, 37]), ([28, 38, 25], [25, 28, 38]), ([25, 39], [25, 39])])
def ref09_May_r5_B : List Nat := [0, 1, 3, 7, 15, 31, 63, 127, 255, 511, 1023, 511, 2559, 8191, 16383, 32767, 65535, 131071, 262143, 524287, 1048575, 2097151, 4194303, 8388607, 16777215, 33554431, 67108863, 134217727, 268435455, 536870911, 1073741823, 536870911, 2684354559, 8589934591, 17179869183, 34359738367, 536870911, 69256347647, 274877906943, 549755813887, 1099511627775]
theorem ref09_May_r5_t : Go.Proofs.YtmkphhjlmhhokaaW.PrintLast.rtab .any (Go.Proofs.YtmkphhjlmhhokaaW.PrintLast.opsOf Try.f34 5) = ref09_May_r5_T := by kernel_rfl
theorem ref09_May_r5_b : Go.Proofs.YtmkphhjlmhhokaaW.PrintLast.waitsOk ref09_May_r5_T.2 ref09_May_r5_B = true := by kernel_rfl
set_option maxRecDepth 100000 in
set_option maxHeartbeats 4000000 in
theorem ref09_May (l : Lsa) (hl : l.ls.length ≤ 4000) : Triple Try.prog 34 [AV.agg (lsaC l)] [] (fun r h' => r = .v (.bool (lsaB l)) ∧ h' = []) := by
  refine triple_of Try.func34 rfl (by kernel_rfl) rfl (by simp) ?_
  refine aSeq ?_
  refine aReg ?_
  refine oQ rfl ?_
  refine qBox rfl rfl (by decide) rfl rfl (fun b1 => ?_)
  refine oP rfl (by exact pMv (.inr rfl) rfl) rfl (by decide) ?_
  refine oNil ?_
  refine aSeq ?_
  refine aSeq ?_
  refine aReg ?_
  refine oP rfl (by exact pMv (.inr rfl) rfl) rfl (by decide) ?_
  refine oNil ?_
  refine aBlock ?_
  refine aLoopI (α := Nat) (fun i => i ≤ l.ls.length ∧ linksB l.o 0 l.ls = linksB l.o (prevT l.ls i) (l.ls.drop i)) (fun i => ([(1, .v (.pointer (some ⟨b1, 0, none⟩))), (3, .int i)], [.box b1 (lsaC l)])) (fun i => l.ls.length - i) 0 ?_ ?_ ?_
  · skip
    exact ⟨by omega, rfl⟩
  · skip
    exact weak_sub ⟨rfl, gInt rfl (by simp), trivial⟩ (by repeat constructor)
  · rintro i ⟨hi, hv⟩
    skip
    refine aSeq ?_
    refine aSeq ?_
    refine aReg ?_
    refine oP rfl (by exact pMv (.inl rfl) rfl) rfl (by decide) ?_
    refine oP rfl (by first | exact pFldB rfl rfl fd_52_2 | exact pFldS rfl rfl fd_52_2) rfl (by decide) ?_
    refine oR rfl (by first | exact rLdS1 rfl rfl ty_50 rfl | exact rLdB1 rfl rfl (by repeat constructor) ty_50 rfl) rfl (by decide) ?_
    refine oP rfl (by first | exact pLenS' (pLenS rfl rfl sl_50) (List.length_map _) | exact pLenS rfl rfl sl_50 | exact pLenV rfl rfl sl_50) rfl (by decide) ?_
    refine oP rfl (by exact pBin rfl rfl rfl rfl rfl) rfl (by decide) ?_
    refine oNil ?_
    refine aCondDec rfl (fun c9 => ?_) (fun c9 => ?_)
    · skip
      refine aSkip ?_
      refine aSeq ?_
      refine aBlock ?_
      refine aSeq ?_
      refine aReg ?_
      refine oP rfl (by first | exact pFldB rfl rfl fd_52_2 | exact pFldS rfl rfl fd_52_2) rfl (by decide) ?_
      refine oR rfl (by first | exact rLdS1 rfl rfl ty_50 rfl | exact rLdB1 rfl rfl (by repeat constructor) ty_50 rfl) rfl (by decide) ?_
      refine oP rfl (by exact pMv (.inl rfl) rfl) rfl (by decide) ?_
      obtain ⟨a, ha⟩ : ∃ a, l.ls[i]? = some a := ⟨_, List.getElem?_eq_getElem (by omega)⟩
      refine oP rfl (by exact pIdxS rfl rfl rfl es_50 (by omega) (map_get (f := linkC) ha)) rfl (by decide) ?_
      refine oR rfl (by first | exact rLdSA rfl rfl ty_54 (Nat.le_of_ble_eq_true rfl) | exact rLdBA rfl rfl (by repeat constructor) ty_54 (Nat.le_of_ble_eq_true rfl)) rfl (by decide) ?_
      refine oQ rfl ?_
      refine qAlloc rfl rfl (by decide) ze_54 rfl (fun b4 => ?_)
      refine oA rfl ?_
      refine oStB rfl rfl rfl rfl (by repeat constructor) ty_54 rfl (Nat.le_of_ble_eq_true rfl) rfl ?_
      refine oNil ?_
      refine aSeq ?_
      refine aDrawT ref09_May_r5_t ref09_May_r5_b [] 41 #[false, false, false, false, false, false, false, false, false, false, false, false, false, false, false, false, false, false, false, false, false, false, false, false, false, false, false, false, false, false, false, false, false, false, false, false, false, false, false, false, false] (by kernel_rfl) rfl rfl (fun HT => ?_)
      refine dPure (i := 0) #[true, false, false, false, false, false, false, false, false, false, false, false, false, false, false, false, false, false, false, false, false, false, false, false, false, false, false, false, false, false, false, false, false, false, false, false, false, false, false, false, false] rfl rfl rfl (HT.any (by kernel_rfl)) (by first | exact pFldB rfl rfl fd_54_0 | exact pFldS rfl rfl fd_54_0) (by decide) ?_
      refine dTake (i := 1) #[true, true, false, false, false, false, false, false, false, false, false, false, false, false, false, false, false, false, false, false, false, false, false, false, false, false, false, false, false, false, false, false, false, false, false, false, false, false, false, false, false] rfl rfl rfl (HT.take (by kernel_rfl)) (by first | exact rLdS1 rfl rfl ty_3 rfl | exact rLdB1 rfl rfl (by repeat constructor) ty_3 rfl) (by decide) ?_
      refine dPure (i := 2) #[true, true, true, false, false, false, false, false, false, false, false, false, false, false, false, false, false, false, false, false, false, false, false, false, false, false, false, false, false, false, false, false, false, false, false, false, false, false, false, false, false] rfl rfl rfl (HT.any (by kernel_rfl)) (by exact pBin rfl rfl rfl rfl rfl) (by decide) ?_
      refine dPure (i := 3) #[true, true, true, true, false, false, false, false, false, false, false, false, false, false, false, false, false, false, false, false, false, false, false, false, false, false, false, false, false, false, false, false, false, false, false, false, false, false, false, false, false] rfl rfl rfl (HT.any (by kernel_rfl)) (by exact pMv (.inl rfl) rfl) (by decide) ?_
      refine dSplitDec 20 rfl (fun c20 => ?_) (fun c20 => ?_)
      · skip
        refine dSkip (i := 4) #[true, true, true, true, true, false, false, false, false, false, false, false, false, false, false, false, false, false, false, false, false, false, false, false, false, false, false, false, false, false, false, false, false, false, false, false, false, false, false, false, false] rfl rfl rfl rfl rfl rfl (HT.any (by kernel_rfl)) (by decide) ?_
        refine dSkip (i := 5) #[true, true, true, true, true, true, false, false, false, false, false, false, false, false, false, false, false, false, false, false, false, false, false, false, false, false, false, false, false, false, false, false, false, false, false, false, false, false, false, false, false] rfl rfl rfl rfl rfl rfl (HT.any (by kernel_rfl)) (by decide) ?_
        refine dSkip (i := 6) #[true, true, true, true, true, true, true, false, false, false, false, false, false, false, false, false, false, false, false, false, false, false, false, false, false, false, false, false, false, false, false, false, false, false, false, false, false, false, false, false, false] rfl rfl rfl rfl rfl rfl (HT.any (by kernel_rfl)) (by decide) ?_
        refine dPure (i := 7) #[true, true, true, true, true, true, true, true, false, false, false, false, false, false, false, false, false, false, false, false, false, false, false, false, false, false, false, false, false, false, false, false, false, false, false, false, false, false, false, false, false] rfl rfl rfl (HT.any (by kernel_rfl)) (by exact pPick rfl rfl rfl) (by decide) ?_
        refine dPure (i := 8) #[true, true, true, true, true, true, true, true, true, false, false, false, false, false, false, false, false, false, false, false, false, false, false, false, false, false, false, false, false, false, false, false, false, false, false, false, false, false, false, false, false] rfl rfl rfl (HT.any (by kernel_rfl)) (by exact pMv (.inl rfl) rfl) (by decide) ?_
        refine dSkip (i := 9) #[true, true, true, true, true, true, true, true, true, true, false, false, false, false, false, false, false, false, false, false, false, false, false, false, false, false, false, false, false, false, false, false, false, false, false, false, false, false, false, false, false] rfl rfl rfl rfl rfl rfl (HT.any (by kernel_rfl)) (by decide) ?_
        refine dSkip (i := 10) #[true, true, true, true, true, true, true, true, true, true, true, false, false, false, false, false, false, false, false, false, false, false, false, false, false, false, false, false, false, false, false, false, false, false, false, false, false, false, false, false, false] rfl rfl rfl rfl rfl rfl (HT.any (by kernel_rfl)) (by decide) ?_
        refine dSkip (i := 11) #[true, true, true, true, true, true, true, true, true, true, true, true, false, false, false, false, false, false, false, false, false, false, false, false, false, false, false, false, false, false, false, false, false, false, false, false, false, false, false, false, false] rfl rfl rfl rfl rfl rfl (HT.any (by kernel_rfl)) (by decide) ?_
        refine dSkip (i := 12) #[true, true, true, true, true, true, true, true, true, true, true, true, true, false, false, false, false, false, false, false, false, false, false, false, false, false, false, false, false, false, false, false, false, false, false, false, false, false, false, false, false] rfl rfl rfl rfl rfl rfl (HT.any (by kernel_rfl)) (by decide) ?_
        refine dSkip (i := 13) #[true, true, true, true, true, true, true, true, true, true, true, true, true, true, false, false, false, false, false, false, false, false, false, false, false, false, false, false, false, false, false, false, false, false, false, false, false, false, false, false, false] rfl rfl rfl rfl rfl rfl (HT.any (by kernel_rfl)) (by decide) ?_
        refine dPure (i := 14) #[true, true, true, true, true, true, true, true, true, true, true, true, true, true, true, false, false, false, false, false, false, false, false, false, false, false, false, false, false, false, false, false, false, false, false, false, false, false, false, false, false] rfl rfl rfl (HT.any (by kernel_rfl)) (by exact pPick rfl rfl rfl) (by decide) ?_
        refine dPure (i := 15) #[true, true, true, true, true, true, true, true, true, true, true, true, true, true, true, true, false, false, false, false, false, false, false, false, false, false, false, false, false, false, false, false, false, false, false, false, false, false, false, false, false] rfl rfl rfl (HT.any (by kernel_rfl)) (by exact pMv (.inl rfl) rfl) (by decide) ?_
        refine dSkip (i := 16) #[true, true, true, true, true, true, true, true, true, true, true, true, true, true, true, true, true, false, false, false, false, false, false, false, false, false, false, false, false, false, false, false, false, false, false, false, false, false, false, false, false] rfl rfl rfl rfl rfl rfl (HT.any (by kernel_rfl)) (by decide) ?_
        refine dSkip (i := 17) #[true, true, true, true, true, true, true, true, true, true, true, true, true, true, true, true, true, true, false, false, false, false, false, false, false, false, false, false, false, false, false, false, false, false, false, false, false, false, false, false, false] rfl rfl rfl rfl rfl rfl (HT.any (by kernel_rfl)) (by decide) ?_
        refine dSkip (i := 18) #[true, true, true, true, true, true, true, true, true, true, true, true, true, true, true, true, true, true, true, false, false, false, false, false, false, false, false, false, false, false, false, false, false, false, false, false, false, false, false, false, false] rfl rfl rfl rfl rfl rfl (HT.any (by kernel_rfl)) (by decide) ?_
        refine dPure (i := 19) #[true, true, true, true, true, true, true, true, true, true, true, true, true, true, true, true, true, true, true, true, false, false, false, false, false, false, false, false, false, false, false, false, false, false, false, false, false, false, false, false, false] rfl rfl rfl (HT.any (by kernel_rfl)) (by exact pPick rfl rfl rfl) (by decide) ?_
        refine dPure (i := 20) #[true, true, true, true, true, true, true, true, true, true, true, true, true, true, true, true, true, true, true, true, true, false, false, false, false, false, false, false, false, false, false, false, false, false, false, false, false, false, false, false, false] rfl rfl rfl (HT.any (by kernel_rfl)) (by exact pMv (.inl rfl) rfl) (by decide) ?_
        refine dSkip (i := 21) #[true, true, true, true, true, true, true, true, true, true, true, true, true, true, true, true, true, true, true, true, true, true, false, false, false, false, false, false, false, false, false, false, false, false, false, false, false, false, false, false, false] rfl rfl rfl rfl rfl rfl (HT.any (by kernel_rfl)) (by decide) ?_
        refine dSkip (i := 22) #[true, true, true, true, true, true, true, true, true, true, true, true, true, true, true, true, true, true, true, true, true, true, true, false, false, false, false, false, false, false, false, false, false, false, false, false, false, false, false, false, false] rfl rfl rfl rfl rfl rfl (HT.any (by kernel_rfl)) (by decide) ?_
        refine dSkip (i := 23) #[true, true, true, true, true, true, true, true, true, true, true, true, true, true, true, true, true, true, true, true, true, true, true, true, false, false, false, false, false, false, false, false, false, false, false, false, false, false, false, false, false] rfl rfl rfl rfl rfl rfl (HT.any (by kernel_rfl)) (by decide) ?_
        refine dPure (i := 24) #[true, true, true, true, true, true, true, true, true, true, true, true, true, true, true, true, true, true, true, true, true, true, true, true, true, false, false, false, false, false, false, false, false, false, false, false, false, false, false, false, false] rfl rfl rfl (HT.any (by kernel_rfl)) (by exact pPick rfl rfl rfl) (by decide) ?_
        refine dPure (i := 25) #[true, true, true, true, true, true, true, true, true, true, true, true, true, true, true, true, true, true, true, true, true, true, true, true, true, true, false, false, false, false, false, false, false, false, false, false, false, false, false, false, false] rfl rfl rfl (HT.any (by kernel_rfl)) (by exact pMv (.inl rfl) rfl) (by decide) ?_
        refine dSkip (i := 26) #[true, true, true, true, true, true, true, true, true, true, true, true, true, true, true, true, true, true, true, true, true, true, true, true, true, true, true, false, false, false, false, false, false, false, false, false, false, false, false, false, false] rfl rfl rfl rfl rfl rfl (HT.any (by kernel_rfl)) (by decide) ?_
        refine dSkip (i := 27) #[true, true, true, true, true, true, true, true, true, true, true, true, true, true, true, true, true, true, true, true, true, true, true, true, true, true, true, true, false, false, false, false, false, false, false, false, false, false, false, false, false] rfl rfl rfl rfl rfl rfl (HT.any (by kernel_rfl)) (by decide) ?_
        refine dSkip (i := 28) #[true, true, true, true, true, true, true, true, true, true, true, true, true, true, true, true, true, true, true, true, true, true, true, true, true, true, true, true, true, false, false, false, false, false, false, false, false, false, false, false, false] rfl rfl rfl rfl rfl rfl (HT.any (by kernel_rfl)) (by decide) ?_
        refine dSkip (i := 29) #[true, true, true, true, true, true, true, true, true, true, true, true, true, true, true, true, true, true, true, true, true, true, true, true, true, true, true, true, true, true, false, false, false, false, false, false, false, false, false, false, false] rfl rfl rfl rfl rfl rfl (HT.any (by kernel_rfl)) (by decide) ?_
        refine dSkip (i := 30) #[true, true, true, true, true, true, true, true, true, true, true, true, true, true, true, true, true, true, true, true, true, true, true, true, true, true, true, true, true, true, true, false, false, false, false, false, false, false, false, false, false] rfl rfl rfl rfl rfl rfl (HT.any (by kernel_rfl)) (by decide) ?_
        refine dSkip (i := 31) #[true, true, true, true, true, true, true, true, true, true, true, true, true, true, true, true, true, true, true, true, true, true, true, true, true, true, true, true, true, true, true, true, false, false, false, false, false, false, false, false, false] rfl rfl rfl rfl rfl rfl (HT.any (by kernel_rfl)) (by decide) ?_
        refine dSkip (i := 32) #[true, true, true, true, true, true, true, true, true, true, true, true, true, true, true, true, true, true, true, true, true, true, true, true, true, true, true, true, true, true, true, true, true, false, false, false, false, false, false, false, false] rfl rfl rfl rfl rfl rfl (HT.any (by kernel_rfl)) (by decide) ?_
        obtain ⟨b, hb⟩ : ∃ b, l.ls[i - 1]? = some b := ⟨_, List.getElem?_eq_getElem (by omega)⟩
        refine dSkip (i := 33) #[true, true, true, true, true, true, true, true, true, true, true, true, true, true, true, true, true, true, true, true, true, true, true, true, true, true, true, true, true, true, true, true, true, true, false, false, false, false, false, false, false] rfl rfl rfl rfl rfl rfl (HT.any (by kernel_rfl)) (by decide) ?_
        refine dSkip (i := 34) #[true, true, true, true, true, true, true, true, true, true, true, true, true, true, true, true, true, true, true, true, true, true, true, true, true, true, true, true, true, true, true, true, true, true, true, false, false, false, false, false, false] rfl rfl rfl rfl rfl rfl (HT.any (by kernel_rfl)) (by decide) ?_
        refine dSkip (i := 35) #[true, true, true, true, true, true, true, true, true, true, true, true, true, true, true, true, true, true, true, true, true, true, true, true, true, true, true, true, true, true, true, true, true, true, true, true, false, false, false, false, false] rfl rfl rfl rfl rfl rfl (HT.any (by kernel_rfl)) (by decide) ?_
        refine dSkip (i := 36) #[true, true, true, true, true, true, true, true, true, true, true, true, true, true, true, true, true, true, true, true, true, true, true, true, true, true, true, true, true, true, true, true, true, true, true, true, true, false, false, false, false] rfl rfl rfl rfl rfl rfl (HT.any (by kernel_rfl)) (by decide) ?_
        refine dSkip (i := 37) #[true, true, true, true, true, true, true, true, true, true, true, true, true, true, true, true, true, true, true, true, true, true, true, true, true, true, true, true, true, true, true, true, true, true, true, true, true, true, false, false, false] rfl rfl rfl rfl rfl rfl (HT.any (by kernel_rfl)) (by decide) ?_
        refine dSkip (i := 38) #[true, true, true, true, true, true, true, true, true, true, true, true, true, true, true, true, true, true, true, true, true, true, true, true, true, true, true, true, true, true, true, true, true, true, true, true, true, true, true, false, false] rfl rfl rfl rfl rfl rfl (HT.any (by kernel_rfl)) (by decide) ?_
        refine dSkip (i := 39) #[true, true, true, true, true, true, true, true, true, true, true, true, true, true, true, true, true, true, true, true, true, true, true, true, true, true, true, true, true, true, true, true, true, true, true, true, true, true, true, true, false] rfl rfl rfl rfl rfl rfl (HT.any (by kernel_rfl)) (by decide) ?_
        refine dPure (i := 40) #[true, true, true, true, true, true, true, true, true, true, true, true, true, true, true, true, true, true, true, true, true, true, true, true, true, true, true, true, true, true, true, true, true, true, true, true, true, true, true, true, true] rfl rfl rfl (HT.any (by kernel_rfl)) (by exact pPick rfl rfl rfl) (by decide) ?_
        refine dEnd (HT.done (by kernel_rfl)) ?_
        clear HT
        refine aCondT rfl ?_
        refine aSeq ?_
        refine aReg ?_
        refine oP rfl (by exact pMv (.inr rfl) rfl) rfl (by decide) ?_
        refine oNil ?_
        refine aRet ?_
        refine ⟨_, [], _, rfl, .nil, ?_, rfl⟩
        show AV.v (.bool false) = _
        have hs := links_step (o := l.o) (last := prevT l.ls i) ha
        have hn : linksB l.o 0 l.ls = false := by
          rw [hv, hs]
          first | (have hq : ¬ b.t < a.t := by omega
                   rw [prevT_eq (by omega) hb]
                   simp [hq]; done) | (simp_all [nodeB]; done) | (simp [nodeB]; omega)
        simp [lsaB, hn]
      · skip
        refine dPureG (i := 4) #[true, true, true, true, true, false, false, false, false, false, false, false, false, false, false, false, false, false, false, false, false, false, false, false, false, false, false, false, false, false, false, false, false, false, false, false, false, false, false, false, false] rfl rfl rfl rfl rfl rfl (HT.any (by kernel_rfl)) (by first | exact pFldB rfl rfl fd_54_0 | exact pFldS rfl rfl fd_54_0) (by decide) ?_
        refine dTakeG (i := 5) #[true, true, true, true, true, true, false, false, false, false, false, false, false, false, false, false, false, false, false, false, false, false, false, false, false, false, false, false, false, false, false, false, false, false, false, false, false, false, false, false, false] rfl rfl rfl rfl rfl rfl (HT.take (by kernel_rfl)) (by first | exact rLdS1 rfl rfl ty_3 rfl | exact rLdB1 rfl rfl (by repeat constructor) ty_3 rfl) (by decide) ?_
        refine dPureG (i := 6) #[true, true, true, true, true, true, true, false, false, false, false, false, false, false, false, false, false, false, false, false, false, false, false, false, false, false, false, false, false, false, false, false, false, false, false, false, false, false, false, false, false] rfl rfl rfl rfl rfl rfl (HT.any (by kernel_rfl)) (by exact pBin rfl rfl rfl rfl rfl) (by decide) ?_
        refine dPure (i := 7) #[true, true, true, true, true, true, true, true, false, false, false, false, false, false, false, false, false, false, false, false, false, false, false, false, false, false, false, false, false, false, false, false, false, false, false, false, false, false, false, false, false] rfl rfl rfl (HT.any (by kernel_rfl)) (by exact pPick rfl rfl rfl) (by decide) ?_
        refine dPure (i := 8) #[true, true, true, true, true, true, true, true, true, false, false, false, false, false, false, false, false, false, false, false, false, false, false, false, false, false, false, false, false, false, false, false, false, false, false, false, false, false, false, false, false] rfl rfl rfl (HT.any (by kernel_rfl)) (by exact pMv (.inl rfl) rfl) (by decide) ?_
        refine dSplitDec 25 rfl (fun c25 => ?_) (fun c25 => ?_)
        · skip
          refine dSkip (i := 9) #[true, true, true, true, true, true, true, true, true, true, false, false, false, false, false, false, false, false, false, false, false, false, false, false, false, false, false, false, false, false, false, false, false, false, false, false, false, false, false, false, false] rfl rfl rfl rfl rfl rfl (HT.any (by kernel_rfl)) (by decide) ?_
          refine dSkip (i := 10) #[true, true, true, true, true, true, true, true, true, true, true, false, false, false, false, false, false, false, false, false, false, false, false, false, false, false, false, false, false, false, false, false, false, false, false, false, false, false, false, false, false] rfl rfl rfl rfl rfl rfl (HT.any (by kernel_rfl)) (by decide) ?_
          refine dSkip (i := 11) #[true, true, true, true, true, true, true, true, true, true, true, true, false, false, false, false, false, false, false, false, false, false, false, false, false, false, false, false, false, false, false, false, false, false, false, false, false, false, false, false, false] rfl rfl rfl rfl rfl rfl (HT.any (by kernel_rfl)) (by decide) ?_
          refine dSkip (i := 12) #[true, true, true, true, true, true, true, true, true, true, true, true, true, false, false, false, false, false, false, false, false, false, false, false, false, false, false, false, false, false, false, false, false, false, false, false, false, false, false, false, false] rfl rfl rfl rfl rfl rfl (HT.any (by kernel_rfl)) (by decide) ?_
          refine dSkip (i := 13) #[true, true, true, true, true, true, true, true, true, true, true, true, true, true, false, false, false, false, false, false, false, false, false, false, false, false, false, false, false, false, false, false, false, false, false, false, false, false, false, false, false] rfl rfl rfl rfl rfl rfl (HT.any (by kernel_rfl)) (by decide) ?_
          refine dPure (i := 14) #[true, true, true, true, true, true, true, true, true, true, true, true, true, true, true, false, false, false, false, false, false, false, false, false, false, false, false, false, false, false, false, false, false, false, false, false, false, false, false, false, false] rfl rfl rfl (HT.any (by kernel_rfl)) (by exact pPick rfl rfl rfl) (by decide) ?_
          refine dPure (i := 15) #[true, true, true, true, true, true, true, true, true, true, true, true, true, true, true, true, false, false, false, false, false, false, false, false, false, false, false, false, false, false, false, false, false, false, false, false, false, false, false, false, false] rfl rfl rfl (HT.any (by kernel_rfl)) (by exact pMv (.inl rfl) rfl) (by decide) ?_
          refine dSkip (i := 16) #[true, true, true, true, true, true, true, true, true, true, true, true, true, true, true, true, true, false, false, false, false, false, false, false, false, false, false, false, false, false, false, false, false, false, false, false, false, false, false, false, false] rfl rfl rfl rfl rfl rfl (HT.any (by kernel_rfl)) (by decide) ?_
          refine dSkip (i := 17) #[true, true, true, true, true, true, true, true, true, true, true, true, true, true, true, true, true, true, false, false, false, false, false, false, false, false, false, false, false, false, false, false, false, false, false, false, false, false, false, false, false] rfl rfl rfl rfl rfl rfl (HT.any (by kernel_rfl)) (by decide) ?_
          refine dSkip (i := 18) #[true, true, true, true, true, true, true, true, true, true, true, true, true, true, true, true, true, true, true, false, false, false, false, false, false, false, false, false, false, false, false, false, false, false, false, false, false, false, false, false, false] rfl rfl rfl rfl rfl rfl (HT.any (by kernel_rfl)) (by decide) ?_
          refine dPure (i := 19) #[true, true, true, true, true, true, true, true, true, true, true, true, true, true, true, true, true, true, true, true, false, false, false, false, false, false, false, false, false, false, false, false, false, false, false, false, false, false, false, false, false] rfl rfl rfl (HT.any (by kernel_rfl)) (by exact pPick rfl rfl rfl) (by decide) ?_
          refine dPure (i := 20) #[true, true, true, true, true, true, true, true, true, true, true, true, true, true, true, true, true, true, true, true, true, false, false, false, false, false, false, false, false, false, false, false, false, false, false, false, false, false, false, false, false] rfl rfl rfl (HT.any (by kernel_rfl)) (by exact pMv (.inl rfl) rfl) (by decide) ?_
          refine dSkip (i := 21) #[true, true, true, true, true, true, true, true, true, true, true, true, true, true, true, true, true, true, true, true, true, true, false, false, false, false, false, false, false, false, false, false, false, false, false, false, false, false, false, false, false] rfl rfl rfl rfl rfl rfl (HT.any (by kernel_rfl)) (by decide) ?_
          refine dSkip (i := 22) #[true, true, true, true, true, true, true, true, true, true, true, true, true, true, true, true, true, true, true, true, true, true, true, false, false, false, false, false, false, false, false, false, false, false, false, false, false, false, false, false, false] rfl rfl rfl rfl rfl rfl (HT.any (by kernel_rfl)) (by decide) ?_
          refine dSkip (i := 23) #[true, true, true, true, true, true, true, true, true, true, true, true, true, true, true, true, true, true, true, true, true, true, true, true, false, false, false, false, false, false, false, false, false, false, false, false, false, false, false, false, false] rfl rfl rfl rfl rfl rfl (HT.any (by kernel_rfl)) (by decide) ?_
          refine dPure (i := 24) #[true, true, true, true, true, true, true, true, true, true, true, true, true, true, true, true, true, true, true, true, true, true, true, true, true, false, false, false, false, false, false, false, false, false, false, false, false, false, false, false, false] rfl rfl rfl (HT.any (by kernel_rfl)) (by exact pPick rfl rfl rfl) (by decide) ?_
          refine dPure (i := 25) #[true, true, true, true, true, true, true, true, true, true, true, true, true, true, true, true, true, true, true, true, true, true, true, true, true, true, false, false, false, false, false, false, false, false, false, false, false, false, false, false, false] rfl rfl rfl (HT.any (by kernel_rfl)) (by exact pMv (.inl rfl) rfl) (by decide) ?_
          refine dSkip (i := 26) #[true, true, true, true, true, true, true, true, true, true, true, true, true, true, true, true, true, true, true, true, true, true, true, true, true, true, true, false, false, false, false, false, false, false, false, false, false, false, false, false, false] rfl rfl rfl rfl rfl rfl (HT.any (by kernel_rfl)) (by decide) ?_
          refine dSkip (i := 27) #[true, true, true, true, true, true, true, true, true, true, true, true, true, true, true, true, true, true, true, true, true, true, true, true, true, true, true, true, false, false, false, false, false, false, false, false, false, false, false, false, false] rfl rfl rfl rfl rfl rfl (HT.any (by kernel_rfl)) (by decide) ?_
          refine dSkip (i := 28) #[true, true, true, true, true, true, true, true, true, true, true, true, true, true, true, true, true, true, true, true, true, true, true, true, true, true, true, true, true, false, false, false, false, false, false, false, false, false, false, false, false] rfl rfl rfl rfl rfl rfl (HT.any (by kernel_rfl)) (by decide) ?_
          refine dSkip (i := 29) #[true, true, true, true, true, true, true, true, true, true, true, true, true, true, true, true, true, true, true, true, true, true, true, true, true, true, true, true, true, true, false, false, false, false, false, false, false, false, false, false, false] rfl rfl rfl rfl rfl rfl (HT.any (by kernel_rfl)) (by decide) ?_
          refine dSkip (i := 30) #[true, true, true, true, true, true, true, true, true, true, true, true, true, true, true, true, true, true, true, true, true, true, true, true, true, true, true, true, true, true, true, false, false, false, false, false, false, false, false, false, false] rfl rfl rfl rfl rfl rfl (HT.any (by kernel_rfl)) (by decide) ?_
          refine dSkip (i := 31) #[true, true, true, true, true, true, true, true, true, true, true, true, true, true, true, true, true, true, true, true, true, true, true, true, true, true, true, true, true, true, true, true, false, false, false, false, false, false, false, false, false] rfl rfl rfl rfl rfl rfl (HT.any (by kernel_rfl)) (by decide) ?_
          refine dSkip (i := 32) #[true, true, true, true, true, true, true, true, true, true, true, true, true, true, true, true, true, true, true, true, true, true, true, true, true, true, true, true, true, true, true, true, true, false, false, false, false, false, false, false, false] rfl rfl rfl rfl rfl rfl (HT.any (by kernel_rfl)) (by decide) ?_
          obtain ⟨b, hb⟩ : ∃ b, l.ls[i - 1]? = some b := ⟨_, List.getElem?_eq_getElem (by omega)⟩
          refine dSkip (i := 33) #[true, true, true, true, true, true, true, true, true, true, true, true, true, true, true, true, true, true, true, true, true, true, true, true, true, true, true, true, true, true, true, true, true, true, false, false, false, false, false, false, false] rfl rfl rfl rfl rfl rfl (HT.any (by kernel_rfl)) (by decide) ?_
          refine dSkip (i := 34) #[true, true, true, true, true, true, true, true, true, true, true, true, true, true, true, true, true, true, true, true, true, true, true, true, true, true, true, true, true, true, true, true, true, true, true, false, false, false, false, false, false] rfl rfl rfl rfl rfl rfl (HT.any (by kernel_rfl)) (by decide) ?_
          refine dSkip (i := 35) #[true, true, true, true, true, true, true, true, true, true, true, true, true, true, true, true, true, true, true, true, true, true, true, true, true, true, true, true, true, true, true, true, true, true, true, true, false, false, false, false, false] rfl rfl rfl rfl rfl rfl (HT.any (by kernel_rfl)) (by decide) ?_
          refine dSkip (i := 36) #[true, true, true, true, true, true, true, true, true, true, true, true, true, true, true, true, true, true, true, true, true, true, true, true, true, true, true, true, true, true, true, true, true, true, true, true, true, false, false, false, false] rfl rfl rfl rfl rfl rfl (HT.any (by kernel_rfl)) (by decide) ?_
          refine dSkip (i := 37) #[true, true, true, true, true, true, true, true, true, true, true, true, true, true, true, true, true, true, true, true, true, true, true, true, true, true, true, true, true, true, true, true, true, true, true, true, true, true, false, false, false] rfl rfl rfl rfl rfl rfl (HT.any (by kernel_rfl)) (by decide) ?_
          refine dSkip (i := 38) #[true, true, true, true, true, true, true, true, true, true, true, true, true, true, true, true, true, true, true, true, true, true, true, true, true, true, true, true, true, true, true, true, true, true, true, true, true, true, true, false, false] rfl rfl rfl rfl rfl rfl (HT.any (by kernel_rfl)) (by decide) ?_
          refine dSkip (i := 39) #[true, true, true, true, true, true, true, true, true, true, true, true, true, true, true, true, true, true, true, true, true, true, true, true, true, true, true, true, true, true, true, true, true, true, true, true, true, true, true, true, false] rfl rfl rfl rfl rfl rfl (HT.any (by kernel_rfl)) (by decide) ?_
          refine dPure (i := 40) #[true, true, true, true, true, true, true, true, true, true, true, true, true, true, true, true, true, true, true, true, true, true, true, true, true, true, true, true, true, true, true, true, true, true, true, true, true, true, true, true, true] rfl rfl rfl (HT.any (by kernel_rfl)) (by exact pPick rfl rfl rfl) (by decide) ?_
          refine dEnd (HT.done (by kernel_rfl)) ?_
          clear HT
          refine aCondT rfl ?_
          refine aSeq ?_
          refine aReg ?_
          refine oP rfl (by exact pMv (.inr rfl) rfl) rfl (by decide) ?_
          refine oNil ?_
          refine aRet ?_
          refine ⟨_, [], _, rfl, .nil, ?_, rfl⟩
          show AV.v (.bool false) = _
          have hs := links_step (o := l.o) (last := prevT l.ls i) ha
          have hn : linksB l.o 0 l.ls = false := by
            rw [hv, hs]
            first | (have hq : ¬ b.t < a.t := by omega
                     rw [prevT_eq (by omega) hb]
                     simp [hq]; done) | (simp_all [nodeB]; done) | (simp [nodeB]; omega)
          simp [lsaB, hn]
        · skip
          refine dPureG (i := 9) #[true, true, true, true, true, true, true, true, true, true, false, false, false, false, false, false, false, false, false, false, false, false, false, false, false, false, false, false, false, false, false, false, false, false, false, false, false, false, false, false, false] rfl rfl rfl rfl rfl rfl (HT.any (by kernel_rfl)) (by first | exact pFldB rfl rfl fd_54_0 | exact pFldS rfl rfl fd_54_0) (by decide) ?_
          refine dTakeG (i := 10) #[true, true, true, true, true, true, true, true, true, true, true, false, false, false, false, false, false, false, false, false, false, false, false, false, false, false, false, false, false, false, false, false, false, false, false, false, false, false, false, false, false] rfl rfl rfl rfl rfl rfl (HT.take (by kernel_rfl)) (by first | exact rLdS1 rfl rfl ty_3 rfl | exact rLdB1 rfl rfl (by repeat constructor) ty_3 rfl) (by decide) ?_
          refine dPureG (i := 11) #[true, true, true, true, true, true, true, true, true, true, true, true, false, false, false, false, false, false, false, false, false, false, false, false, false, false, false, false, false, false, false, false, false, false, false, false, false, false, false, false, false] rfl rfl rfl rfl rfl rfl (HT.any (by kernel_rfl)) (by first | exact pFldB rfl rfl fd_52_0 | exact pFldS rfl rfl fd_52_0) (by decide) ?_
          refine dTakeG (i := 12) #[true, true, true, true, true, true, true, true, true, true, true, true, true, false, false, false, false, false, false, false, false, false, false, false, false, false, false, false, false, false, false, false, false, false, false, false, false, false, false, false, false] rfl rfl rfl rfl rfl rfl (HT.take (by kernel_rfl)) (by first | exact rLdS1 rfl rfl ty_3 rfl | exact rLdB1 rfl rfl (by repeat constructor) ty_3 rfl) (by decide) ?_
          refine dPureG (i := 13) #[true, true, true, true, true, true, true, true, true, true, true, true, true, true, false, false, false, false, false, false, false, false, false, false, false, false, false, false, false, false, false, false, false, false, false, false, false, false, false, false, false] rfl rfl rfl rfl rfl rfl (HT.any (by kernel_rfl)) (by exact pBin rfl rfl rfl rfl rfl) (by decide) ?_
          refine dPure (i := 14) #[true, true, true, true, true, true, true, true, true, true, true, true, true, true, true, false, false, false, false, false, false, false, false, false, false, false, false, false, false, false, false, false, false, false, false, false, false, false, false, false, false] rfl rfl rfl (HT.any (by kernel_rfl)) (by exact pPick rfl rfl rfl) (by decide) ?_
          refine dPure (i := 15) #[true, true, true, true, true, true, true, true, true, true, true, true, true, true, true, true, false, false, false, false, false, false, false, false, false, false, false, false, false, false, false, false, false, false, false, false, false, false, false, false, false] rfl rfl rfl (HT.any (by kernel_rfl)) (by exact pMv (.inl rfl) rfl) (by decide) ?_
          refine dSplitEq 32 rfl (fun c32 => ?_) (fun c32 => ?_)
          · skip
            refine dSkip (i := 16) #[true, true, true, true, true, true, true, true, true, true, true, true, true, true, true, true, true, false, false, false, false, false, false, false, false, false, false, false, false, false, false, false, false, false, false, false, false, false, false, false, false] rfl rfl rfl rfl rfl rfl (HT.any (by kernel_rfl)) (by decide) ?_
            refine dSkip (i := 17) #[true, true, true, true, true, true, true, true, true, true, true, true, true, true, true, true, true, true, false, false, false, false, false, false, false, false, false, false, false, false, false, false, false, false, false, false, false, false, false, false, false] rfl rfl rfl rfl rfl rfl (HT.any (by kernel_rfl)) (by decide) ?_
            refine dSkip (i := 18) #[true, true, true, true, true, true, true, true, true, true, true, true, true, true, true, true, true, true, true, false, false, false, false, false, false, false, false, false, false, false, false, false, false, false, false, false, false, false, false, false, false] rfl rfl rfl rfl rfl rfl (HT.any (by kernel_rfl)) (by decide) ?_
            refine dPure (i := 19) #[true, true, true, true, true, true, true, true, true, true, true, true, true, true, true, true, true, true, true, true, false, false, false, false, false, false, false, false, false, false, false, false, false, false, false, false, false, false, false, false, false] rfl rfl rfl (HT.any (by kernel_rfl)) (by exact pPick rfl rfl rfl) (by decide) ?_
            refine dPure (i := 20) #[true, true, true, true, true, true, true, true, true, true, true, true, true, true, true, true, true, true, true, true, true, false, false, false, false, false, false, false, false, false, false, false, false, false, false, false, false, false, false, false, false] rfl rfl rfl (HT.any (by kernel_rfl)) (by exact pMv (.inl rfl) rfl) (by decide) ?_
            refine dSkip (i := 21) #[true, true, true, true, true, true, true, true, true, true, true, true, true, true, true, true, true, true, true, true, true, true, false, false, false, false, false, false, false, false, false, false, false, false, false, false, false, false, false, false, false] rfl rfl rfl rfl rfl rfl (HT.any (by kernel_rfl)) (by decide) ?_
            refine dSkip (i := 22) #[true, true, true, true, true, true, true, true, true, true, true, true, true, true, true, true, true, true, true, true, true, true, true, false, false, false, false, false, false, false, false, false, false, false, false, false, false, false, false, false, false] rfl rfl rfl rfl rfl rfl (HT.any (by kernel_rfl)) (by decide) ?_
            refine dSkip (i := 23) #[true, true, true, true, true, true, true, true, true, true, true, true, true, true, true, true, true, true, true, true, true, true, true, true, false, false, false, false, false, false, false, false, false, false, false, false, false, false, false, false, false] rfl rfl rfl rfl rfl rfl (HT.any (by kernel_rfl)) (by decide) ?_
            refine dPure (i := 24) #[true, true, true, true, true, true, true, true, true, true, true, true, true, true, true, true, true, true, true, true, true, true, true, true, true, false, false, false, false, false, false, false, false, false, false, false, false, false, false, false, false] rfl rfl rfl (HT.any (by kernel_rfl)) (by exact pPick rfl rfl rfl) (by decide) ?_
            refine dPure (i := 25) #[true, true, true, true, true, true, true, true, true, true, true, true, true, true, true, true, true, true, true, true, true, true, true, true, true, true, false, false, false, false, false, false, false, false, false, false, false, false, false, false, false] rfl rfl rfl (HT.any (by kernel_rfl)) (by exact pMv (.inl rfl) rfl) (by decide) ?_
            refine dSkip (i := 26) #[true, true, true, true, true, true, true, true, true, true, true, true, true, true, true, true, true, true, true, true, true, true, true, true, true, true, true, false, false, false, false, false, false, false, false, false, false, false, false, false, false] rfl rfl rfl rfl rfl rfl (HT.any (by kernel_rfl)) (by decide) ?_
            refine dSkip (i := 27) #[true, true, true, true, true, true, true, true, true, true, true, true, true, true, true, true, true, true, true, true, true, true, true, true, true, true, true, true, false, false, false, false, false, false, false, false, false, false, false, false, false] rfl rfl rfl rfl rfl rfl (HT.any (by kernel_rfl)) (by decide) ?_
            refine dSkip (i := 28) #[true, true, true, true, true, true, true, true, true, true, true, true, true, true, true, true, true, true, true, true, true, true, true, true, true, true, true, true, true, false, false, false, false, false, false, false, false, false, false, false, false] rfl rfl rfl rfl rfl rfl (HT.any (by kernel_rfl)) (by decide) ?_
            refine dSkip (i := 29) #[true, true, true, true, true, true, true, true, true, true, true, true, true, true, true, true, true, true, true, true, true, true, true, true, true, true, true, true, true, true, false, false, false, false, false, false, false, false, false, false, false] rfl rfl rfl rfl rfl rfl (HT.any (by kernel_rfl)) (by decide) ?_
            refine dSkip (i := 30) #[true, true, true, true, true, true, true, true, true, true, true, true, true, true, true, true, true, true, true, true, true, true, true, true, true, true, true, true, true, true, true, false, false, false, false, false, false, false, false, false, false] rfl rfl rfl rfl rfl rfl (HT.any (by kernel_rfl)) (by decide) ?_
            refine dSkip (i := 31) #[true, true, true, true, true, true, true, true, true, true, true, true, true, true, true, true, true, true, true, true, true, true, true, true, true, true, true, true, true, true, true, true, false, false, false, false, false, false, false, false, false] rfl rfl rfl rfl rfl rfl (HT.any (by kernel_rfl)) (by decide) ?_
            refine dSkip (i := 32) #[true, true, true, true, true, true, true, true, true, true, true, true, true, true, true, true, true, true, true, true, true, true, true, true, true, true, true, true, true, true, true, true, true, false, false, false, false, false, false, false, false] rfl rfl rfl rfl rfl rfl (HT.any (by kernel_rfl)) (by decide) ?_
            obtain ⟨b, hb⟩ : ∃ b, l.ls[i - 1]? = some b := ⟨_, List.getElem?_eq_getElem (by omega)⟩
            refine dSkip (i := 33) #[true, true, true, true, true, true, true, true, true, true, true, true, true, true, true, true, true, true, true, true, true, true, true, true, true, true, true, true, true, true, true, true, true, true, false, false, false, false, false, false, false] rfl rfl rfl rfl rfl rfl (HT.any (by kernel_rfl)) (by decide) ?_
            refine dSkip (i := 34) #[true, true, true, true, true, true, true, true, true, true, true, true, true, true, true, true, true, true, true, true, true, true, true, true, true, true, true, true, true, true, true, true, true, true, true, false, false, false, false, false, false] rfl rfl rfl rfl rfl rfl (HT.any (by kernel_rfl)) (by decide) ?_
            refine dSkip (i := 35) #[true, true, true, true, true, true, true, true, true, true, true, true, true, true, true, true, true, true, true, true, true, true, true, true, true, true, true, true, true, true, true, true, true, true, true, true, false, false, false, false, false] rfl rfl rfl rfl rfl rfl (HT.any (by kernel_rfl)) (by decide) ?_
            refine dSkip (i := 36) #[true, true, true, true, true, true, true, true, true, true, true, true, true, true, true, true, true, true, true, true, true, true, true, true, true, true, true, true, true, true, true, true, true, true, true, true, true, false, false, false, false] rfl rfl rfl rfl rfl rfl (HT.any (by kernel_rfl)) (by decide) ?_
            refine dSkip (i := 37) #[true, true, true, true, true, true, true, true, true, true, true, true, true, true, true, true, true, true, true, true, true, true, true, true, true, true, true, true, true, true, true, true, true, true, true, true, true, true, false, false, false] rfl rfl rfl rfl rfl rfl (HT.any (by kernel_rfl)) (by decide) ?_
            refine dSkip (i := 38) #[true, true, true, true, true, true, true, true, true, true, true, true, true, true, true, true, true, true, true, true, true, true, true, true, true, true, true, true, true, true, true, true, true, true, true, true, true, true, true, false, false] rfl rfl rfl rfl rfl rfl (HT.any (by kernel_rfl)) (by decide) ?_
            refine dSkip (i := 39) #[true, true, true, true, true, true, true, true, true, true, true, true, true, true, true, true, true, true, true, true, true, true, true, true, true, true, true, true, true, true, true, true, true, true, true, true, true, true, true, true, false] rfl rfl rfl rfl rfl rfl (HT.any (by kernel_rfl)) (by decide) ?_
            refine dPure (i := 40) #[true, true, true, true, true, true, true, true, true, true, true, true, true, true, true, true, true, true, true, true, true, true, true, true, true, true, true, true, true, true, true, true, true, true, true, true, true, true, true, true, true] rfl rfl rfl (HT.any (by kernel_rfl)) (by exact pPick rfl rfl rfl) (by decide) ?_
            refine dEnd (HT.done (by kernel_rfl)) ?_
            clear HT
            refine aCondT rfl ?_
            refine aSeq ?_
            refine aReg ?_
            refine oP rfl (by exact pMv (.inr rfl) rfl) rfl (by decide) ?_
            refine oNil ?_
            refine aRet ?_
            refine ⟨_, [], _, rfl, .nil, ?_, rfl⟩
            show AV.v (.bool false) = _
            have hs := links_step (o := l.o) (last := prevT l.ls i) ha
            have hn : linksB l.o 0 l.ls = false := by
              rw [hv, hs]
              first | (have hq : ¬ b.t < a.t := by omega
                       rw [prevT_eq (by omega) hb]
                       simp [hq]; done) | (simp_all [nodeB]; done) | (simp [nodeB]; omega)
            simp [lsaB, hn]
          · skip
            refine dPureG (i := 16) #[true, true, true, true, true, true, true, true, true, true, true, true, true, true, true, true, true, false, false, false, false, false, false, false, false, false, false, false, false, false, false, false, false, false, false, false, false, false, false, false, false] rfl rfl rfl rfl rfl rfl (HT.any (by kernel_rfl)) (by first | exact pFldB rfl rfl fd_54_1 | exact pFldS rfl rfl fd_54_1) (by decide) ?_
            refine dTakeG (i := 17) #[true, true, true, true, true, true, true, true, true, true, true, true, true, true, true, true, true, true, false, false, false, false, false, false, false, false, false, false, false, false, false, false, false, false, false, false, false, false, false, false, false] rfl rfl rfl rfl rfl rfl (HT.take (by kernel_rfl)) (by first | exact rLdS1 rfl rfl ty_3 rfl | exact rLdB1 rfl rfl (by repeat constructor) ty_3 rfl) (by decide) ?_
            refine dPureG (i := 18) #[true, true, true, true, true, true, true, true, true, true, true, true, true, true, true, true, true, true, true, false, false, false, false, false, false, false, false, false, false, false, false, false, false, false, false, false, false, false, false, false, false] rfl rfl rfl rfl rfl rfl (HT.any (by kernel_rfl)) (by exact pBin rfl rfl rfl rfl rfl) (by decide) ?_
            refine dPure (i := 19) #[true, true, true, true, true, true, true, true, true, true, true, true, true, true, true, true, true, true, true, true, false, false, false, false, false, false, false, false, false, false, false, false, false, false, false, false, false, false, false, false, false] rfl rfl rfl (HT.any (by kernel_rfl)) (by exact pPick rfl rfl rfl) (by decide) ?_
            refine dPure (i := 20) #[true, true, true, true, true, true, true, true, true, true, true, true, true, true, true, true, true, true, true, true, true, false, false, false, false, false, false, false, false, false, false, false, false, false, false, false, false, false, false, false, false] rfl rfl rfl (HT.any (by kernel_rfl)) (by exact pMv (.inl rfl) rfl) (by decide) ?_
            refine dSplitDec 37 rfl (fun c37 => ?_) (fun c37 => ?_)
            · skip
              refine dSkip (i := 21) #[true, true, true, true, true, true, true, true, true, true, true, true, true, true, true, true, true, true, true, true, true, true, false, false, false, false, false, false, false, false, false, false, false, false, false, false, false, false, false, false, false] rfl rfl rfl rfl rfl rfl (HT.any (by kernel_rfl)) (by decide) ?_
              refine dSkip (i := 22) #[true, true, true, true, true, true, true, true, true, true, true, true, true, true, true, true, true, true, true, true, true, true, true, false, false, false, false, false, false, false, false, false, false, false, false, false, false, false, false, false, false] rfl rfl rfl rfl rfl rfl (HT.any (by kernel_rfl)) (by decide) ?_
              refine dSkip (i := 23) #[true, true, true, true, true, true, true, true, true, true, true, true, true, true, true, true, true, true, true, true, true, true, true, true, false, false, false, false, false, false, false, false, false, false, false, false, false, false, false, false, false] rfl rfl rfl rfl rfl rfl (HT.any (by kernel_rfl)) (by decide) ?_
              refine dPure (i := 24) #[true, true, true, true, true, true, true, true, true, true, true, true, true, true, true, true, true, true, true, true, true, true, true, true, true, false, false, false, false, false, false, false, false, false, false, false, false, false, false, false, false] rfl rfl rfl (HT.any (by kernel_rfl)) (by exact pPick rfl rfl rfl) (by decide) ?_
              refine dPure (i := 25) #[true, true, true, true, true, true, true, true, true, true, true, true, true, true, true, true, true, true, true, true, true, true, true, true, true, true, false, false, false, false, false, false, false, false, false, false, false, false, false, false, false] rfl rfl rfl (HT.any (by kernel_rfl)) (by exact pMv (.inl rfl) rfl) (by decide) ?_
              refine dSkip (i := 26) #[true, true, true, true, true, true, true, true, true, true, true, true, true, true, true, true, true, true, true, true, true, true, true, true, true, true, true, false, false, false, false, false, false, false, false, false, false, false, false, false, false] rfl rfl rfl rfl rfl rfl (HT.any (by kernel_rfl)) (by decide) ?_
              refine dSkip (i := 27) #[true, true, true, true, true, true, true, true, true, true, true, true, true, true, true, true, true, true, true, true, true, true, true, true, true, true, true, true, false, false, false, false, false, false, false, false, false, false, false, false, false] rfl rfl rfl rfl rfl rfl (HT.any (by kernel_rfl)) (by decide) ?_
              refine dSkip (i := 28) #[true, true, true, true, true, true, true, true, true, true, true, true, true, true, true, true, true, true, true, true, true, true, true, true, true, true, true, true, true, false, false, false, false, false, false, false, false, false, false, false, false] rfl rfl rfl rfl rfl rfl (HT.any (by kernel_rfl)) (by decide) ?_
              refine dSkip (i := 29) #[true, true, true, true, true, true, true, true, true, true, true, true, true, true, true, true, true, true, true, true, true, true, true, true, true, true, true, true, true, true, false, false, false, false, false, false, false, false, false, false, false] rfl rfl rfl rfl rfl rfl (HT.any (by kernel_rfl)) (by decide) ?_
              refine dSkip (i := 30) #[true, true, true, true, true, true, true, true, true, true, true, true, true, true, true, true, true, true, true, true, true, true, true, true, true, true, true, true, true, true, true, false, false, false, false, false, false, false, false, false, false] rfl rfl rfl rfl rfl rfl (HT.any (by kernel_rfl)) (by decide) ?_
              refine dSkip (i := 31) #[true, true, true, true, true, true, true, true, true, true, true, true, true, true, true, true, true, true, true, true, true, true, true, true, true, true, true, true, true, true, true, true, false, false, false, false, false, false, false, false, false] rfl rfl rfl rfl rfl rfl (HT.any (by kernel_rfl)) (by decide) ?_
              refine dSkip (i := 32) #[true, true, true, true, true, true, true, true, true, true, true, true, true, true, true, true, true, true, true, true, true, true, true, true, true, true, true, true, true, true, true, true, true, false, false, false, false, false, false, false, false] rfl rfl rfl rfl rfl rfl (HT.any (by kernel_rfl)) (by decide) ?_
              obtain ⟨b, hb⟩ : ∃ b, l.ls[i - 1]? = some b := ⟨_, List.getElem?_eq_getElem (by omega)⟩
              refine dSkip (i := 33) #[true, true, true, true, true, true, true, true, true, true, true, true, true, true, true, true, true, true, true, true, true, true, true, true, true, true, true, true, true, true, true, true, true, true, false, false, false, false, false, false, false] rfl rfl rfl rfl rfl rfl (HT.any (by kernel_rfl)) (by decide) ?_
              refine dSkip (i := 34) #[true, true, true, true, true, true, true, true, true, true, true, true, true, true, true, true, true, true, true, true, true, true, true, true, true, true, true, true, true, true, true, true, true, true, true, false, false, false, false, false, false] rfl rfl rfl rfl rfl rfl (HT.any (by kernel_rfl)) (by decide) ?_
              refine dSkip (i := 35) #[true, true, true, true, true, true, true, true, true, true, true, true, true, true, true, true, true, true, true, true, true, true, true, true, true, true, true, true, true, true, true, true, true, true, true, true, false, false, false, false, false] rfl rfl rfl rfl rfl rfl (HT.any (by kernel_rfl)) (by decide) ?_
              refine dSkip (i := 36) #[true, true, true, true, true, true, true, true, true, true, true, true, true, true, true, true, true, true, true, true, true, true, true, true, true, true, true, true, true, true, true, true, true, true, true, true, true, false, false, false, false] rfl rfl rfl rfl rfl rfl (HT.any (by kernel_rfl)) (by decide) ?_
              refine dSkip (i := 37) #[true, true, true, true, true, true, true, true, true, true, true, true, true, true, true, true, true, true, true, true, true, true, true, true, true, true, true, true, true, true, true, true, true, true, true, true, true, true, false, false, false] rfl rfl rfl rfl rfl rfl (HT.any (by kernel_rfl)) (by decide) ?_
              refine dSkip (i := 38) #[true, true, true, true, true, true, true, true, true, true, true, true, true, true, true, true, true, true, true, true, true, true, true, true, true, true, true, true, true, true, true, true, true, true, true, true, true, true, true, false, false] rfl rfl rfl rfl rfl rfl (HT.any (by kernel_rfl)) (by decide) ?_
              refine dSkip (i := 39) #[true, true, true, true, true, true, true, true, true, true, true, true, true, true, true, true, true, true, true, true, true, true, true, true, true, true, true, true, true, true, true, true, true, true, true, true, true, true, true, true, false] rfl rfl rfl rfl rfl rfl (HT.any (by kernel_rfl)) (by decide) ?_
              refine dPure (i := 40) #[true, true, true, true, true, true, true, true, true, true, true, true, true, true, true, true, true, true, true, true, true, true, true, true, true, true, true, true, true, true, true, true, true, true, true, true, true, true, true, true, true] rfl rfl rfl (HT.any (by kernel_rfl)) (by exact pPick rfl rfl rfl) (by decide) ?_
              refine dEnd (HT.done (by kernel_rfl)) ?_
              clear HT
              refine aCondT rfl ?_
              refine aSeq ?_
              refine aReg ?_
              refine oP rfl (by exact pMv (.inr rfl) rfl) rfl (by decide) ?_
              refine oNil ?_
              refine aRet ?_
              refine ⟨_, [], _, rfl, .nil, ?_, rfl⟩
              show AV.v (.bool false) = _
              have hs := links_step (o := l.o) (last := prevT l.ls i) ha
              have hn : linksB l.o 0 l.ls = false := by
                rw [hv, hs]
                first | (have hq : ¬ b.t < a.t := by omega
                         rw [prevT_eq (by omega) hb]
                         simp [hq]; done) | (simp_all [nodeB]; done) | (simp [nodeB]; omega)
              simp [lsaB, hn]
            · skip
              refine dPureG (i := 21) #[true, true, true, true, true, true, true, true, true, true, true, true, true, true, true, true, true, true, true, true, true, true, false, false, false, false, false, false, false, false, false, false, false, false, false, false, false, false, false, false, false] rfl rfl rfl rfl rfl rfl (HT.any (by kernel_rfl)) (by first | exact pFldB rfl rfl fd_54_1 | exact pFldS rfl rfl fd_54_1) (by decide) ?_
              refine dTakeG (i := 22) #[true, true, true, true, true, true, true, true, true, true, true, true, true, true, true, true, true, true, true, true, true, true, true, false, false, false, false, false, false, false, false, false, false, false, false, false, false, false, false, false, false] rfl rfl rfl rfl rfl rfl (HT.take (by kernel_rfl)) (by first | exact rLdS1 rfl rfl ty_3 rfl | exact rLdB1 rfl rfl (by repeat constructor) ty_3 rfl) (by decide) ?_
              refine dPureG (i := 23) #[true, true, true, true, true, true, true, true, true, true, true, true, true, true, true, true, true, true, true, true, true, true, true, true, false, false, false, false, false, false, false, false, false, false, false, false, false, false, false, false, false] rfl rfl rfl rfl rfl rfl (HT.any (by kernel_rfl)) (by exact pBin rfl rfl rfl rfl rfl) (by decide) ?_
              refine dPure (i := 24) #[true, true, true, true, true, true, true, true, true, true, true, true, true, true, true, true, true, true, true, true, true, true, true, true, true, false, false, false, false, false, false, false, false, false, false, false, false, false, false, false, false] rfl rfl rfl (HT.any (by kernel_rfl)) (by exact pPick rfl rfl rfl) (by decide) ?_
              refine dPure (i := 25) #[true, true, true, true, true, true, true, true, true, true, true, true, true, true, true, true, true, true, true, true, true, true, true, true, true, true, false, false, false, false, false, false, false, false, false, false, false, false, false, false, false] rfl rfl rfl (HT.any (by kernel_rfl)) (by exact pMv (.inl rfl) rfl) (by decide) ?_
              refine dSplitDec 42 rfl (fun c42 => ?_) (fun c42 => ?_)
              · skip
                refine dSkip (i := 26) #[true, true, true, true, true, true, true, true, true, true, true, true, true, true, true, true, true, true, true, true, true, true, true, true, true, true, true, false, false, false, false, false, false, false, false, false, false, false, false, false, false] rfl rfl rfl rfl rfl rfl (HT.any (by kernel_rfl)) (by decide) ?_
                refine dSkip (i := 27) #[true, true, true, true, true, true, true, true, true, true, true, true, true, true, true, true, true, true, true, true, true, true, true, true, true, true, true, true, false, false, false, false, false, false, false, false, false, false, false, false, false] rfl rfl rfl rfl rfl rfl (HT.any (by kernel_rfl)) (by decide) ?_
                refine dSkip (i := 28) #[true, true, true, true, true, true, true, true, true, true, true, true, true, true, true, true, true, true, true, true, true, true, true, true, true, true, true, true, true, false, false, false, false, false, false, false, false, false, false, false, false] rfl rfl rfl rfl rfl rfl (HT.any (by kernel_rfl)) (by decide) ?_
                refine dSkip (i := 29) #[true, true, true, true, true, true, true, true, true, true, true, true, true, true, true, true, true, true, true, true, true, true, true, true, true, true, true, true, true, true, false, false, false, false, false, false, false, false, false, false, false] rfl rfl rfl rfl rfl rfl (HT.any (by kernel_rfl)) (by decide) ?_
                refine dSkip (i := 30) #[true, true, true, true, true, true, true, true, true, true, true, true, true, true, true, true, true, true, true, true, true, true, true, true, true, true, true, true, true, true, true, false, false, false, false, false, false, false, false, false, false] rfl rfl rfl rfl rfl rfl (HT.any (by kernel_rfl)) (by decide) ?_
                refine dSkip (i := 31) #[true, true, true, true, true, true, true, true, true, true, true, true, true, true, true, true, true, true, true, true, true, true, true, true, true, true, true, true, true, true, true, true, false, false, false, false, false, false, false, false, false] rfl rfl rfl rfl rfl rfl (HT.any (by kernel_rfl)) (by decide) ?_
                refine dSkip (i := 32) #[true, true, true, true, true, true, true, true, true, true, true, true, true, true, true, true, true, true, true, true, true, true, true, true, true, true, true, true, true, true, true, true, true, false, false, false, false, false, false, false, false] rfl rfl rfl rfl rfl rfl (HT.any (by kernel_rfl)) (by decide) ?_
                obtain ⟨b, hb⟩ : ∃ b, l.ls[i - 1]? = some b := ⟨_, List.getElem?_eq_getElem (by omega)⟩
                refine dSkip (i := 33) #[true, true, true, true, true, true, true, true, true, true, true, true, true, true, true, true, true, true, true, true, true, true, true, true, true, true, true, true, true, true, true, true, true, true, false, false, false, false, false, false, false] rfl rfl rfl rfl rfl rfl (HT.any (by kernel_rfl)) (by decide) ?_
                refine dSkip (i := 34) #[true, true, true, true, true, true, true, true, true, true, true, true, true, true, true, true, true, true, true, true, true, true, true, true, true, true, true, true, true, true, true, true, true, true, true, false, false, false, false, false, false] rfl rfl rfl rfl rfl rfl (HT.any (by kernel_rfl)) (by decide) ?_
                refine dSkip (i := 35) #[true, true, true, true, true, true, true, true, true, true, true, true, true, true, true, true, true, true, true, true, true, true, true, true, true, true, true, true, true, true, true, true, true, true, true, true, false, false, false, false, false] rfl rfl rfl rfl rfl rfl (HT.any (by kernel_rfl)) (by decide) ?_
                refine dSkip (i := 36) #[true, true, true, true, true, true, true, true, true, true, true, true, true, true, true, true, true, true, true, true, true, true, true, true, true, true, true, true, true, true, true, true, true, true, true, true, true, false, false, false, false] rfl rfl rfl rfl rfl rfl (HT.any (by kernel_rfl)) (by decide) ?_
                refine dSkip (i := 37) #[true, true, true, true, true, true, true, true, true, true, true, true, true, true, true, true, true, true, true, true, true, true, true, true, true, true, true, true, true, true, true, true, true, true, true, true, true, true, false, false, false] rfl rfl rfl rfl rfl rfl (HT.any (by kernel_rfl)) (by decide) ?_
                refine dSkip (i := 38) #[true, true, true, true, true, true, true, true, true, true, true, true, true, true, true, true, true, true, true, true, true, true, true, true, true, true, true, true, true, true, true, true, true, true, true, true, true, true, true, false, false] rfl rfl rfl rfl rfl rfl (HT.any (by kernel_rfl)) (by decide) ?_
                refine dSkip (i := 39) #[true, true, true, true, true, true, true, true, true, true, true, true, true, true, true, true, true, true, true, true, true, true, true, true, true, true, true, true, true, true, true, true, true, true, true, true, true, true, true, true, false] rfl rfl rfl rfl rfl rfl (HT.any (by kernel_rfl)) (by decide) ?_
                refine dPure (i := 40) #[true, true, true, true, true, true, true, true, true, true, true, true, true, true, true, true, true, true, true, true, true, true, true, true, true, true, true, true, true, true, true, true, true, true, true, true, true, true, true, true, true] rfl rfl rfl (HT.any (by kernel_rfl)) (by exact pPick rfl rfl rfl) (by decide) ?_
                refine dEnd (HT.done (by kernel_rfl)) ?_
                clear HT
                refine aCondT rfl ?_
                refine aSeq ?_
                refine aReg ?_
                refine oP rfl (by exact pMv (.inr rfl) rfl) rfl (by decide) ?_
                refine oNil ?_
                refine aRet ?_
                refine ⟨_, [], _, rfl, .nil, ?_, rfl⟩
                show AV.v (.bool false) = _
                have hs := links_step (o := l.o) (last := prevT l.ls i) ha
                have hn : linksB l.o 0 l.ls = false := by
                  rw [hv, hs]
                  first | (have hq : ¬ b.t < a.t := by omega
                           rw [prevT_eq (by omega) hb]
                           simp [hq]; done) | (simp_all [nodeB]; done) | (simp [nodeB]; omega)
                simp [lsaB, hn]
              · skip
                refine dPureG (i := 26) #[true, true, true, true, true, true, true, true, true, true, true, true, true, true, true, true, true, true, true, true, true, true, true, true, true, true, true, false, false, false, false, false, false, false, false, false, false, false, false, false, false] rfl rfl rfl rfl rfl rfl (HT.any (by kernel_rfl)) (by exact pMv (.inl rfl) rfl) (by decide) ?_
                refine dPureG (i := 27) #[true, true, true, true, true, true, true, true, true, true, true, true, true, true, true, true, true, true, true, true, true, true, true, true, true, true, true, true, false, false, false, false, false, false, false, false, false, false, false, false, false] rfl rfl rfl rfl rfl rfl (HT.any (by kernel_rfl)) (by exact pBin rfl rfl rfl rfl rfl) (by decide) ?_
                refine dPureG (i := 28) #[true, true, true, true, true, true, true, true, true, true, true, true, true, true, true, true, true, true, true, true, true, true, true, true, true, true, true, true, true, false, false, false, false, false, false, false, false, false, false, false, false] rfl rfl rfl rfl rfl rfl (HT.any (by kernel_rfl)) (by exact pMv (.inl rfl) rfl) (by decide) ?_
                refine dSplitDec 45 rfl (fun c45 => ?_) (fun c45 => ?_)
                · skip
                  refine dPureG (i := 29) #[true, true, true, true, true, true, true, true, true, true, true, true, true, true, true, true, true, true, true, true, true, true, true, true, true, true, true, true, true, true, false, false, false, false, false, false, false, false, false, false, false] rfl rfl rfl rfl rfl rfl (HT.any (by kernel_rfl)) (by first | exact pFldB rfl rfl fd_52_2 | exact pFldS rfl rfl fd_52_2) (by decide) ?_
                  refine dTakeG (i := 30) #[true, true, true, true, true, true, true, true, true, true, true, true, true, true, true, true, true, true, true, true, true, true, true, true, true, true, true, true, true, true, true, false, false, false, false, false, false, false, false, false, false] rfl rfl rfl rfl rfl rfl (HT.take (by kernel_rfl)) (by first | exact rLdS1 rfl rfl ty_50 rfl | exact rLdB1 rfl rfl (by repeat constructor) ty_50 rfl) (by decide) ?_
                  refine dPureG (i := 31) #[true, true, true, true, true, true, true, true, true, true, true, true, true, true, true, true, true, true, true, true, true, true, true, true, true, true, true, true, true, true, true, true, false, false, false, false, false, false, false, false, false] rfl rfl rfl rfl rfl rfl (HT.any (by kernel_rfl)) (by exact pMv (.inl rfl) rfl) (by decide) ?_
                  refine dPureG (i := 32) #[true, true, true, true, true, true, true, true, true, true, true, true, true, true, true, true, true, true, true, true, true, true, true, true, true, true, true, true, true, true, true, true, true, false, false, false, false, false, false, false, false] rfl rfl rfl rfl rfl rfl (HT.any (by kernel_rfl)) (by exact pSub rfl rfl rfl (by omega) (by omega)) (by decide) ?_
                  obtain ⟨b, hb⟩ : ∃ b, l.ls[i - 1]? = some b := ⟨_, List.getElem?_eq_getElem (by omega)⟩
                  refine dPureG (i := 33) #[true, true, true, true, true, true, true, true, true, true, true, true, true, true, true, true, true, true, true, true, true, true, true, true, true, true, true, true, true, true, true, true, true, true, false, false, false, false, false, false, false] rfl rfl rfl rfl rfl rfl (HT.any (by kernel_rfl)) (by exact pIdxS rfl rfl rfl es_50 (by omega) (by rw [show ((i : Int) - 1).toNat = i - 1 by omega]; exact map_get (f := linkC) hb)) (by decide) ?_
                  refine dPureG (i := 34) #[true, true, true, true, true, true, true, true, true, true, true, true, true, true, true, true, true, true, true, true, true, true, true, true, true, true, true, true, true, true, true, true, true, true, true, false, false, false, false, false, false] rfl rfl rfl rfl rfl rfl (HT.any (by kernel_rfl)) (by first | exact pFldB rfl rfl fd_54_0 | exact pFldS rfl rfl fd_54_0) (by decide) ?_
                  refine dTakeG (i := 35) #[true, true, true, true, true, true, true, true, true, true, true, true, true, true, true, true, true, true, true, true, true, true, true, true, true, true, true, true, true, true, true, true, true, true, true, true, false, false, false, false, false] rfl rfl rfl rfl rfl rfl (HT.take (by kernel_rfl)) (by first | exact rLdS1 rfl rfl ty_3 rfl | exact rLdB1 rfl rfl (by repeat constructor) ty_3 rfl) (by decide) ?_
                  refine dPureG (i := 36) #[true, true, true, true, true, true, true, true, true, true, true, true, true, true, true, true, true, true, true, true, true, true, true, true, true, true, true, true, true, true, true, true, true, true, true, true, true, false, false, false, false] rfl rfl rfl rfl rfl rfl (HT.any (by kernel_rfl)) (by first | exact pFldB rfl rfl fd_54_0 | exact pFldS rfl rfl fd_54_0) (by decide) ?_
                  refine dTakeG (i := 37) #[true, true, true, true, true, true, true, true, true, true, true, true, true, true, true, true, true, true, true, true, true, true, true, true, true, true, true, true, true, true, true, true, true, true, true, true, true, true, false, false, false] rfl rfl rfl rfl rfl rfl (HT.take (by kernel_rfl)) (by first | exact rLdS1 rfl rfl ty_3 rfl | exact rLdB1 rfl rfl (by repeat constructor) ty_3 rfl) (by decide) ?_
                  refine dPureG (i := 38) #[true, true, true, true, true, true, true, true, true, true, true, true, true, true, true, true, true, true, true, true, true, true, true, true, true, true, true, true, true, true, true, true, true, true, true, true, true, true, true, false, false] rfl rfl rfl rfl rfl rfl (HT.any (by kernel_rfl)) (by exact pBin rfl rfl rfl rfl rfl) (by decide) ?_
                  refine dPureG (i := 39) #[true, true, true, true, true, true, true, true, true, true, true, true, true, true, true, true, true, true, true, true, true, true, true, true, true, true, true, true, true, true, true, true, true, true, true, true, true, true, true, true, false] rfl rfl rfl rfl rfl rfl (HT.any (by kernel_rfl)) (by exact pPick rfl rfl rfl) (by decide) ?_
                  refine dPure (i := 40) #[true, true, true, true, true, true, true, true, true, true, true, true, true, true, true, true, true, true, true, true, true, true, true, true, true, true, true, true, true, true, true, true, true, true, true, true, true, true, true, true, true] rfl rfl rfl (HT.any (by kernel_rfl)) (by exact pPick rfl rfl rfl) (by decide) ?_
                  refine dEnd (HT.done (by kernel_rfl)) ?_
                  clear HT
                  refine aCondDec rfl (fun c57 => ?_) (fun c57 => ?_)
                  · skip
                    refine aSeq ?_
                    refine aReg ?_
                    refine oP rfl (by exact pMv (.inr rfl) rfl) rfl (by decide) ?_
                    refine oNil ?_
                    refine aRet ?_
                    refine ⟨_, [], _, rfl, .nil, ?_, rfl⟩
                    show AV.v (.bool false) = _
                    have hs := links_step (o := l.o) (last := prevT l.ls i) ha
                    have hn : linksB l.o 0 l.ls = false := by
                      rw [hv, hs]
                      first | (have hq : ¬ b.t < a.t := by omega
                               rw [prevT_eq (by omega) hb]
                               simp [hq]; done) | (simp_all [nodeB]; done) | (simp [nodeB]; omega)
                    simp [lsaB, hn]
                  · skip
                    refine aSkip ?_
                    refine aReg ?_
                    refine oP rfl (by exact pMv (.inl rfl) rfl) rfl (by decide) ?_
                    refine oP rfl (by exact pAdd rfl rfl rfl (by omega) (by omega)) rfl (by decide) ?_
                    refine oP rfl (by exact pMv (.inr rfl) rfl) rfl (by decide) ?_
                    refine oNil ?_
                    have hs := links_step (o := l.o) (last := prevT l.ls i) ha
                    refine ⟨i + 1, ⟨by omega, ?_⟩, by show l.ls.length - (i + 1) < l.ls.length - i; omega, weak_sub ⟨rfl, gInt rfl (by simp), trivial⟩ (by repeat constructor)⟩
                    rw [hv, hs, prevT_succ ha]
                    have hq : prevT l.ls i < a.t := by
                      by_cases h0 : i = 0
                      · rw [prevT_zero h0]; omega
                      · first | (rw [prevT_eq (by omega) hb]; omega) | omega
                    simp_all [nodeB]
                    all_goals first | (intros; omega) | skip
                · skip
                  refine dSkip (i := 29) #[true, true, true, true, true, true, true, true, true, true, true, true, true, true, true, true, true, true, true, true, true, true, true, true, true, true, true, true, true, true, false, false, false, false, false, false, false, false, false, false, false] rfl rfl rfl rfl rfl rfl (HT.any (by kernel_rfl)) (by decide) ?_
                  refine dSkip (i := 30) #[true, true, true, true, true, true, true, true, true, true, true, true, true, true, true, true, true, true, true, true, true, true, true, true, true, true, true, true, true, true, true, false, false, false, false, false, false, false, false, false, false] rfl rfl rfl rfl rfl rfl (HT.any (by kernel_rfl)) (by decide) ?_
                  refine dSkip (i := 31) #[true, true, true, true, true, true, true, true, true, true, true, true, true, true, true, true, true, true, true, true, true, true, true, true, true, true, true, true, true, true, true, true, false, false, false, false, false, false, false, false, false] rfl rfl rfl rfl rfl rfl (HT.any (by kernel_rfl)) (by decide) ?_
                  refine dSkip (i := 32) #[true, true, true, true, true, true, true, true, true, true, true, true, true, true, true, true, true, true, true, true, true, true, true, true, true, true, true, true, true, true, true, true, true, false, false, false, false, false, false, false, false] rfl rfl rfl rfl rfl rfl (HT.any (by kernel_rfl)) (by decide) ?_
                  obtain ⟨b, hb⟩ : ∃ b, l.ls[i - 1]? = some b := ⟨_, List.getElem?_eq_getElem (by omega)⟩
                  refine dSkip (i := 33) #[true, true, true, true, true, true, true, true, true, true, true, true, true, true, true, true, true, true, true, true, true, true, true, true, true, true, true, true, true, true, true, true, true, true, false, false, false, false, false, false, false] rfl rfl rfl rfl rfl rfl (HT.any (by kernel_rfl)) (by decide) ?_
                  refine dSkip (i := 34) #[true, true, true, true, true, true, true, true, true, true, true, true, true, true, true, true, true, true, true, true, true, true, true, true, true, true, true, true, true, true, true, true, true, true, true, false, false, false, false, false, false] rfl rfl rfl rfl rfl rfl (HT.any (by kernel_rfl)) (by decide) ?_
                  refine dSkip (i := 35) #[true, true, true, true, true, true, true, true, true, true, true, true, true, true, true, true, true, true, true, true, true, true, true, true, true, true, true, true, true, true, true, true, true, true, true, true, false, false, false, false, false] rfl rfl rfl rfl rfl rfl (HT.any (by kernel_rfl)) (by decide) ?_
                  refine dSkip (i := 36) #[true, true, true, true, true, true, true, true, true, true, true, true, true, true, true, true, true, true, true, true, true, true, true, true, true, true, true, true, true, true, true, true, true, true, true, true, true, false, false, false, false] rfl rfl rfl rfl rfl rfl (HT.any (by kernel_rfl)) (by decide) ?_
                  refine dSkip (i := 37) #[true, true, true, true, true, true, true, true, true, true, true, true, true, true, true, true, true, true, true, true, true, true, true, true, true, true, true, true, true, true, true, true, true, true, true, true, true, true, false, false, false] rfl rfl rfl rfl rfl rfl (HT.any (by kernel_rfl)) (by decide) ?_
                  refine dSkip (i := 38) #[true, true, true, true, true, true, true, true, true, true, true, true, true, true, true, true, true, true, true, true, true, true, true, true, true, true, true, true, true, true, true, true, true, true, true, true, true, true, true, false, false] rfl rfl rfl rfl rfl rfl (HT.any (by kernel_rfl)) (by decide) ?_
                  refine dPureG (i := 39) #[true, true, true, true, true, true, true, true, true, true, true, true, true, true, true, true, true, true, true, true, true, true, true, true, true, true, true, true, true, true, true, true, true, true, true, true, true, true, true, true, false] rfl rfl rfl rfl rfl rfl (HT.any (by kernel_rfl)) (by exact pPick rfl rfl rfl) (by decide) ?_
                  refine dPure (i := 40) #[true, true, true, true, true, true, true, true, true, true, true, true, true, true, true, true, true, true, true, true, true, true, true, true, true, true, true, true, true, true, true, true, true, true, true, true, true, true, true, true, true] rfl rfl rfl (HT.any (by kernel_rfl)) (by exact pPick rfl rfl rfl) (by decide) ?_
                  refine dEnd (HT.done (by kernel_rfl)) ?_
                  clear HT
                  refine aCondF rfl ?_
                  refine aSkip ?_
                  refine aReg ?_
                  refine oP rfl (by exact pMv (.inl rfl) rfl) rfl (by decide) ?_
                  refine oP rfl (by exact pAdd rfl rfl rfl (by omega) (by omega)) rfl (by decide) ?_
                  refine oP rfl (by exact pMv (.inr rfl) rfl) rfl (by decide) ?_
                  refine oNil ?_
                  have hs := links_step (o := l.o) (last := prevT l.ls i) ha
                  refine ⟨i + 1, ⟨by omega, ?_⟩, by show l.ls.length - (i + 1) < l.ls.length - i; omega, weak_sub ⟨rfl, gInt rfl (by simp), trivial⟩ (by repeat constructor)⟩
                  rw [hv, hs, prevT_succ ha]
                  have hq : prevT l.ls i < a.t := by
                    by_cases h0 : i = 0
                    · rw [prevT_zero h0]; omega
                    · first | (rw [prevT_eq (by omega) hb]; omega) | omega
                  simp_all [nodeB]
                  all_goals first | (intros; omega) | skip
    · skip
      refine aExit rfl ?_
      refine aSeq ?_
      refine aReg ?_
      refine oP rfl (by first | exact pFldB rfl rfl fd_52_0 | exact pFldS rfl rfl fd_52_0) rfl (by decide) ?_
      refine oR rfl (by first | exact rLdS1 rfl rfl ty_3 rfl | exact rLdB1 rfl rfl (by repeat constructor) ty_3 rfl) rfl (by decide) ?_
      refine oP rfl (by exact pBin rfl rfl rfl rfl rfl) rfl (by decide) ?_
      refine oP rfl (by exact pMv (.inl rfl) rfl) rfl (by decide) ?_
      refine oSplitDec 61 rfl (fun c61 => ?_) (fun c61 => ?_)
      · skip
        refine oGP rfl rfl rfl rfl (by first | exact pFldB rfl rfl fd_52_0 | exact pFldS rfl rfl fd_52_0) rfl (by decide) ?_
        refine oGR rfl rfl rfl rfl (by first | exact rLdS1 rfl rfl ty_3 rfl | exact rLdB1 rfl rfl (by repeat constructor) ty_3 rfl) rfl (by decide) ?_
        refine oGP rfl rfl rfl rfl (by exact pBin rfl rfl rfl rfl rfl) rfl (by decide) ?_
        refine oP rfl (by exact pPick rfl rfl rfl) rfl (by decide) ?_
        refine oP rfl (by exact pMv (.inl rfl) rfl) rfl (by decide) ?_
        refine oSplitDec 66 rfl (fun c66 => ?_) (fun c66 => ?_)
        · skip
          refine oGP rfl rfl rfl rfl (by first | exact pFldB rfl rfl fd_52_1 | exact pFldS rfl rfl fd_52_1) rfl (by decide) ?_
          refine oGR rfl rfl rfl rfl (by first | exact rLdS1 rfl rfl ty_3 rfl | exact rLdB1 rfl rfl (by repeat constructor) ty_3 rfl) rfl (by decide) ?_
          refine oGP rfl rfl rfl rfl (by exact pBin rfl rfl rfl rfl rfl) rfl (by decide) ?_
          refine oP rfl (by exact pPick rfl rfl rfl) rfl (by decide) ?_
          refine oP rfl (by exact pMv (.inl rfl) rfl) rfl (by decide) ?_
          refine oSplitDec 71 rfl (fun c71 => ?_) (fun c71 => ?_)
          · skip
            refine oGP rfl rfl rfl rfl (by first | exact pFldB rfl rfl fd_52_1 | exact pFldS rfl rfl fd_52_1) rfl (by decide) ?_
            refine oGR rfl rfl rfl rfl (by first | exact rLdS1 rfl rfl ty_3 rfl | exact rLdB1 rfl rfl (by repeat constructor) ty_3 rfl) rfl (by decide) ?_
            refine oGP rfl rfl rfl rfl (by exact pBin rfl rfl rfl rfl rfl) rfl (by decide) ?_
            refine oP rfl (by exact pPick rfl rfl rfl) rfl (by decide) ?_
            refine oP rfl (by exact pMv (.inl rfl) rfl) rfl (by decide) ?_
            refine oSplitDec 76 rfl (fun c76 => ?_) (fun c76 => ?_)
            · skip
              refine oGP rfl rfl rfl rfl (by first | exact pFldB rfl rfl fd_52_2 | exact pFldS rfl rfl fd_52_2) rfl (by decide) ?_
              refine oGR rfl rfl rfl rfl (by first | exact rLdS1 rfl rfl ty_50 rfl | exact rLdB1 rfl rfl (by repeat constructor) ty_50 rfl) rfl (by decide) ?_
              refine oGP rfl rfl rfl rfl (by first | exact pLenS' (pLenS rfl rfl sl_50) (List.length_map _) | exact pLenS rfl rfl sl_50 | exact pLenV rfl rfl sl_50) rfl (by decide) ?_
              refine oGP rfl rfl rfl rfl (by exact pBin rfl rfl rfl rfl rfl) rfl (by decide) ?_
              refine oP rfl (by exact pPick rfl rfl rfl) rfl (by decide) ?_
              refine oP rfl (by exact pMv (.inr rfl) rfl) rfl (by decide) ?_
              refine oNil ?_
              refine aRet ?_
              refine ⟨_, [], _, rfl, .nil, ?_, rfl⟩
              rw [List.drop_of_length_le (by omega)] at hv
              simp_all [retOf, lsaB, linksB, nodeB]
              all_goals first | omega | (intros; omega) | skip
            · skip
              refine oGF rfl rfl rfl rfl rfl (by decide) ?_
              refine oGF rfl rfl rfl rfl rfl (by decide) ?_
              refine oGF rfl rfl rfl rfl rfl (by decide) ?_
              refine oGF rfl rfl rfl rfl rfl (by decide) ?_
              refine oP rfl (by exact pPick rfl rfl rfl) rfl (by decide) ?_
              refine oP rfl (by exact pMv (.inr rfl) rfl) rfl (by decide) ?_
              refine oNil ?_
              refine aRet ?_
              refine ⟨_, [], _, rfl, .nil, ?_, rfl⟩
              rw [List.drop_of_length_le (by omega)] at hv
              simp_all [retOf, lsaB, linksB, nodeB]
              all_goals first | omega | (intros; omega) | skip
          · skip
            refine oGF rfl rfl rfl rfl rfl (by decide) ?_
            refine oGF rfl rfl rfl rfl rfl (by decide) ?_
            refine oGF rfl rfl rfl rfl rfl (by decide) ?_
            refine oP rfl (by exact pPick rfl rfl rfl) rfl (by decide) ?_
            refine oP rfl (by exact pMv (.inl rfl) rfl) rfl (by decide) ?_
            refine oGF rfl rfl rfl rfl rfl (by decide) ?_
            refine oGF rfl rfl rfl rfl rfl (by decide) ?_
            refine oGF rfl rfl rfl rfl rfl (by decide) ?_
            refine oGF rfl rfl rfl rfl rfl (by decide) ?_
            refine oP rfl (by exact pPick rfl rfl rfl) rfl (by decide) ?_
            refine oP rfl (by exact pMv (.inr rfl) rfl) rfl (by decide) ?_
            refine oNil ?_
            refine aRet ?_
            refine ⟨_, [], _, rfl, .nil, ?_, rfl⟩
            rw [List.drop_of_length_le (by omega)] at hv
            simp_all [retOf, lsaB, linksB, nodeB]
            all_goals first | omega | (intros; omega) | skip
        · skip
          refine oGF rfl rfl rfl rfl rfl (by decide) ?_
          refine oGF rfl rfl rfl rfl rfl (by decide) ?_
          refine oGF rfl rfl rfl rfl rfl (by decide) ?_
          refine oP rfl (by exact pPick rfl rfl rfl) rfl (by decide) ?_
          refine oP rfl (by exact pMv (.inl rfl) rfl) rfl (by decide) ?_
          refine oGF rfl rfl rfl rfl rfl (by decide) ?_
          refine oGF rfl rfl rfl rfl rfl (by decide) ?_
          refine oGF rfl rfl rfl rfl rfl (by decide) ?_
          refine oP rfl (by exact pPick rfl rfl rfl) rfl (by decide) ?_
          refine oP rfl (by exact pMv (.inl rfl) rfl) rfl (by decide) ?_
          refine oGF rfl rfl rfl rfl rfl (by decide) ?_
          refine oGF rfl rfl rfl rfl rfl (by decide) ?_
          refine oGF rfl rfl rfl rfl rfl (by decide) ?_
          refine oGF rfl rfl rfl rfl rfl (by decide) ?_
          refine oP rfl (by exact pPick rfl rfl rfl) rfl (by decide) ?_
          refine oP rfl (by exact pMv (.inr rfl) rfl) rfl (by decide) ?_
          refine oNil ?_
          refine aRet ?_
          refine ⟨_, [], _, rfl, .nil, ?_, rfl⟩
          rw [List.drop_of_length_le (by omega)] at hv
          simp_all [retOf, lsaB, linksB, nodeB]
          all_goals first | omega | (intros; omega) | skip
      · skip
        refine oGF rfl rfl rfl rfl rfl (by decide) ?_
        refine oGF rfl rfl rfl rfl rfl (by decide) ?_
        refine oGF rfl rfl rfl rfl rfl (by decide) ?_
        refine oP rfl (by exact pPick rfl rfl rfl) rfl (by decide) ?_
        refine oP rfl (by exact pMv (.inl rfl) rfl) rfl (by decide) ?_
        refine oGF rfl rfl rfl rfl rfl (by decide) ?_
        refine oGF rfl rfl rfl rfl rfl (by decide) ?_
        refine oGF rfl rfl rfl rfl rfl (by decide) ?_
        refine oP rfl (by exact pPick rfl rfl rfl) rfl (by decide) ?_
        refine oP rfl (by exact pMv (.inl rfl) rfl) rfl (by decide) ?_
        refine oGF rfl rfl rfl rfl rfl (by decide) ?_
        refine oGF rfl rfl rfl rfl rfl (by decide) ?_
        refine oGF rfl rfl rfl rfl rfl (by decide) ?_
        refine oP rfl (by exact pPick rfl rfl rfl) rfl (by decide) ?_
        refine oP rfl (by exact pMv (.inl rfl) rfl) rfl (by decide) ?_
        refine oGF rfl rfl rfl rfl rfl (by decide) ?_
        refine oGF rfl rfl rfl rfl rfl (by decide) ?_
        refine oGF rfl rfl rfl rfl rfl (by decide) ?_
        refine oGF rfl rfl rfl rfl rfl (by decide) ?_
        refine oP rfl (by exact pPick rfl rfl rfl) rfl (by decide) ?_
        refine oP rfl (by exact pMv (.inr rfl) rfl) rfl (by decide) ?_
        refine oNil ?_
        refine aRet ?_
        refine ⟨_, [], _, rfl, .nil, ?_, rfl⟩
        rw [List.drop_of_length_le (by omega)] at hv
        simp_all [retOf, lsaB, linksB, nodeB]
        all_goals first | omega | (intros; omega) | skip

/- waymarkref19.May -/
def ref19_May_r4_T : Bool × List (List Nat × List Nat) := (true, [([], []), ([], []), ([0, 1], [0, 1]), ([2], [2]), ([3], [3]), ([4], [4]), ([5, 4], [5]), ([6], [6]), ([7, 6], [6, 7]), ([8, 6, 6], [6, 8]), ([9], [9]), ([9], [9]), ([11, 9], [9, 11]), ([10, 12, 9], [9, 10, 12]), ([13, 9], [9, 13]), ([14, 9], [9, 14]), ([9], [9]), ([9], [9]), ([16, 17, 9], [9, 16, 17]), ([18, 9], [9, 18]), ([19, 9], [9, 19]), ([15, 20, 9], [9, 15, 20]), ([9, 21, 6], [6, 9, 21]), ([6, 22], [6, 22])])
def ref19_May_r4_B : List Nat := [0, 0, 3, 7, 15, 31, 63, 127, 255, 511, 1023, 1023, 3071, 8191, 16383, 32767, 1023, 1023, 197631, 459775, 984063, 2097151, 4194303, 8388607]
theorem ref19_May_r4_t : Go.Proofs.YtmkphhjlmhhokaaW.PrintLast.rtab .any (Go.Proofs.YtmkphhjlmhhokaaW.PrintLast.opsOf Try.f13 4) = ref19_May_r4_T := by kernel_rfl
theorem ref19_May_r4_b : Go.Proofs.YtmkphhjlmhhokaaW.PrintLast.waitsOk ref19_May_r4_T.2 ref19_May_r4_B = true := by kernel_rfl
set_option maxRecDepth 100000 in
set_option maxHeartbeats 2000000 in
theorem ref19_May (db : List Lsa) (hl : db.length ≤ 4000) (hm : ∀ x ∈ db, x.ls.length ≤ 4000) : Triple Try.prog 13 [AV.sl 3 (db.map lsaC)] [] (fun r h' => r = .v (.bool (lsdbB 0 db)) ∧ h' = []) := by
  refine triple_of Try.func13 rfl (by kernel_rfl) rfl (by simp) ?_
  refine aSeq ?_
  refine aReg ?_
  refine oP rfl (by exact pMv (.inr rfl) rfl) rfl (by decide) ?_
  refine oNil ?_
  refine aSeq ?_
  refine aSeq ?_
  refine aReg ?_
  refine oP rfl (by exact pMv (.inr rfl) rfl) rfl (by decide) ?_
  refine oNil ?_
  refine aBlock ?_
  refine aLoopI (α := Nat) (fun i => i ≤ db.length ∧ lsdbB 0 db = lsdbB (prevO db i) (db.drop i)) (fun i => ([(0, AV.sl 3 (db.map lsaC)), (3, .int i)], [])) (fun i => db.length - i) 0 ?_ ?_ ?_
  · skip
    exact ⟨by omega, rfl⟩
  · skip
    exact weak_sub ⟨rfl, gInt rfl (by simp), trivial⟩ .nil
  · rintro i ⟨hi, hv⟩
    skip
    refine aSeq ?_
    refine aSeq ?_
    refine aReg ?_
    refine oP rfl (by exact pMv (.inl rfl) rfl) rfl (by decide) ?_
    refine oP rfl (by exact pMv (.inl rfl) rfl) rfl (by decide) ?_
    refine oP rfl (by first | exact pLenS' (pLenS rfl rfl sl_29) (List.length_map _) | exact pLenS rfl rfl sl_29 | exact pLenV rfl rfl sl_29) rfl (by decide) ?_
    refine oP rfl (by exact pBin rfl rfl rfl rfl rfl) rfl (by decide) ?_
    refine oNil ?_
    refine aCondDec rfl (fun c7 => ?_) (fun c7 => ?_)
    · skip
      refine aSkip ?_
      refine aSeq ?_
      refine aBlock ?_
      refine aSeq ?_
      refine aDrawT ref19_May_r4_t ref19_May_r4_b [] 24 #[false, false, false, false, false, false, false, false, false, false, false, false, false, false, false, false, false, false, false, false, false, false, false, false] (by kernel_rfl) rfl rfl (fun HT => ?_)
      refine dPure (i := 0) #[true, false, false, false, false, false, false, false, false, false, false, false, false, false, false, false, false, false, false, false, false, false, false, false] rfl rfl rfl (HT.any (by kernel_rfl)) (by exact pMv (.inl rfl) rfl) (by decide) ?_
      refine dPure (i := 1) #[true, true, false, false, false, false, false, false, false, false, false, false, false, false, false, false, false, false, false, false, false, false, false, false] rfl rfl rfl (HT.any (by kernel_rfl)) (by exact pMv (.inl rfl) rfl) (by decide) ?_
      obtain ⟨a, ha⟩ : ∃ a, db[i]? = some a := ⟨_, List.getElem?_eq_getElem (by omega)⟩
      refine dPure (i := 2) #[true, true, true, false, false, false, false, false, false, false, false, false, false, false, false, false, false, false, false, false, false, false, false, false] rfl rfl rfl (HT.any (by kernel_rfl)) (by exact pIdxS rfl rfl rfl es_29 (by omega) (map_get (f := lsaC) ha)) (by decide) ?_
      refine dTake (i := 3) #[true, true, true, true, false, false, false, false, false, false, false, false, false, false, false, false, false, false, false, false, false, false, false, false] rfl rfl rfl (HT.take (by kernel_rfl)) (by first | exact rLdSA rfl rfl ty_52 (Nat.le_of_ble_eq_true rfl) | exact rLdBA rfl rfl (by repeat constructor) ty_52 (Nat.le_of_ble_eq_true rfl)) (by decide) ?_
      refine dGo ?_
      refine eOneF (i := 4) #[true, true, true, true, true, false, false, false, false, false, false, false, false, false, false, false, false, false, false, false, false, false, false, false] rfl rfl rfl rfl (HT.one (by kernel_rfl)) (by decide) (by decide) ?_
      refine qCallV rfl rfl (by decide) rfl rfl (lents_refl _) (ref09_May _ (hm _ (List.mem_of_getElem? ha))) ?_
      refine ePureF (i := 5) #[true, true, true, true, true, true, false, false, false, false, false, false, false, false, false, false, false, false, false, false, false, false, false, false] rfl rfl rfl rfl (HT.any (by kernel_rfl)) (by exact pNot rfl rfl) (by decide) ?_
      refine ePureF (i := 6) #[true, true, true, true, true, true, true, false, false, false, false, false, false, false, false, false, false, false, false, false, false, false, false, false] rfl rfl rfl rfl (HT.any (by kernel_rfl)) (by exact pMv (.inl rfl) rfl) (by decide) ?_
      refine eSplitNot 16 rfl (fun c16 => ?_) (fun c16 => ?_)
      · skip
        refine eSkipF (i := 7) #[true, true, true, true, true, true, true, true, false, false, false, false, false, false, false, false, false, false, false, false, false, false, false, false] rfl rfl rfl rfl rfl rfl rfl (HT.any (by kernel_rfl)) (by decide) ?_
        refine eSkipF (i := 8) #[true, true, true, true, true, true, true, true, true, false, false, false, false, false, false, false, false, false, false, false, false, false, false, false] rfl rfl rfl rfl rfl rfl rfl (HT.any (by kernel_rfl)) (by decide) ?_
        refine eSkipF (i := 9) #[true, true, true, true, true, true, true, true, true, true, false, false, false, false, false, false, false, false, false, false, false, false, false, false] rfl rfl rfl rfl rfl rfl rfl (HT.any (by kernel_rfl)) (by decide) ?_
        refine eSkipF (i := 10) #[true, true, true, true, true, true, true, true, true, true, true, false, false, false, false, false, false, false, false, false, false, false, false, false] rfl rfl rfl rfl rfl rfl rfl (HT.any (by kernel_rfl)) (by decide) ?_
        refine eSkipF (i := 11) #[true, true, true, true, true, true, true, true, true, true, true, true, false, false, false, false, false, false, false, false, false, false, false, false] rfl rfl rfl rfl rfl rfl rfl (HT.any (by kernel_rfl)) (by decide) ?_
        refine eSkipF (i := 12) #[true, true, true, true, true, true, true, true, true, true, true, true, true, false, false, false, false, false, false, false, false, false, false, false] rfl rfl rfl rfl rfl rfl rfl (HT.any (by kernel_rfl)) (by decide) ?_
        obtain ⟨b, hb⟩ : ∃ b, db[i - 1]? = some b := ⟨_, List.getElem?_eq_getElem (by omega)⟩
        refine eSkipF (i := 13) #[true, true, true, true, true, true, true, true, true, true, true, true, true, true, false, false, false, false, false, false, false, false, false, false] rfl rfl rfl rfl rfl rfl rfl (HT.any (by kernel_rfl)) (by decide) ?_
        refine eSkipF (i := 14) #[true, true, true, true, true, true, true, true, true, true, true, true, true, true, true, false, false, false, false, false, false, false, false, false] rfl rfl rfl rfl rfl rfl rfl (HT.any (by kernel_rfl)) (by decide) ?_
        refine eSkipF (i := 16) #[true, true, true, true, true, true, true, true, true, true, true, true, true, true, true, false, true, false, false, false, false, false, false, false] rfl rfl rfl rfl rfl rfl rfl (HT.any (by kernel_rfl)) (by decide) ?_
        refine eSkipF (i := 17) #[true, true, true, true, true, true, true, true, true, true, true, true, true, true, true, false, true, true, false, false, false, false, false, false] rfl rfl rfl rfl rfl rfl rfl (HT.any (by kernel_rfl)) (by decide) ?_
        refine eSkipF (i := 18) #[true, true, true, true, true, true, true, true, true, true, true, true, true, true, true, false, true, true, true, false, false, false, false, false] rfl rfl rfl rfl rfl rfl rfl (HT.any (by kernel_rfl)) (by decide) ?_
        refine eSkipF (i := 19) #[true, true, true, true, true, true, true, true, true, true, true, true, true, true, true, false, true, true, true, true, false, false, false, false] rfl rfl rfl rfl rfl rfl rfl (HT.any (by kernel_rfl)) (by decide) ?_
        refine eSkipF (i := 15) #[true, true, true, true, true, true, true, true, true, true, true, true, true, true, true, true, true, true, true, true, false, false, false, false] rfl rfl rfl rfl rfl rfl rfl (HT.any (by kernel_rfl)) (by decide) ?_
        refine eSkipF (i := 20) #[true, true, true, true, true, true, true, true, true, true, true, true, true, true, true, true, true, true, true, true, true, false, false, false] rfl rfl rfl rfl rfl rfl rfl (HT.any (by kernel_rfl)) (by decide) ?_
        refine eSkipF (i := 21) #[true, true, true, true, true, true, true, true, true, true, true, true, true, true, true, true, true, true, true, true, true, true, false, false] rfl rfl rfl rfl rfl rfl rfl (HT.any (by kernel_rfl)) (by decide) ?_
        refine eSkipF (i := 22) #[true, true, true, true, true, true, true, true, true, true, true, true, true, true, true, true, true, true, true, true, true, true, true, false] rfl rfl rfl rfl rfl rfl rfl (HT.any (by kernel_rfl)) (by decide) ?_
        refine ePureF (i := 23) #[true, true, true, true, true, true, true, true, true, true, true, true, true, true, true, true, true, true, true, true, true, true, true, true] rfl rfl rfl rfl (HT.any (by kernel_rfl)) (by exact pPick rfl rfl rfl) (by decide) ?_
        refine eLast (fEnd (HT.done (by kernel_rfl)) ?_)
        clear HT
        refine aCondT rfl ?_
        refine aSeq ?_
        refine aReg ?_
        refine oP rfl (by exact pMv (.inr rfl) rfl) rfl (by decide) ?_
        refine oNil ?_
        refine aRet ?_
        refine ⟨_, [], _, rfl, .nil, ?_, rfl⟩
        show AV.v (.bool false) = _
        have hs := lsdb_step (last := prevO db i) ha
        rw [hv, hs]
        first | (have hq : ¬ b.o < a.o := by omega
                 rw [prevO_eq (by omega) hb]
                 simp [hq]; done) | (simp_all; done)
      · skip
        refine ePureBG (i := 7) #[true, true, true, true, true, true, true, true, false, false, false, false, false, false, false, false, false, false, false, false, false, false, false, false] rfl rfl rfl rfl rfl rfl (HT.any (by kernel_rfl)) (by exact pMv (.inl rfl) rfl) (by decide) ?_
        refine ePureBG (i := 8) #[true, true, true, true, true, true, true, true, true, false, false, false, false, false, false, false, false, false, false, false, false, false, false, false] rfl rfl rfl rfl rfl rfl (HT.any (by kernel_rfl)) (by exact pBin rfl rfl rfl rfl rfl) (by decide) ?_
        refine ePureBG (i := 9) #[true, true, true, true, true, true, true, true, true, true, false, false, false, false, false, false, false, false, false, false, false, false, false, false] rfl rfl rfl rfl rfl rfl (HT.any (by kernel_rfl)) (by exact pMv (.inl rfl) rfl) (by decide) ?_
        refine eSplitDec 19 rfl (fun c19 => ?_) (fun c19 => ?_)
        · skip
          refine ePureBG (i := 10) #[true, true, true, true, true, true, true, true, true, true, true, false, false, false, false, false, false, false, false, false, false, false, false, false] rfl rfl rfl rfl rfl rfl (HT.any (by kernel_rfl)) (by exact pMv (.inl rfl) rfl) (by decide) ?_
          refine ePureBG (i := 11) #[true, true, true, true, true, true, true, true, true, true, true, true, false, false, false, false, false, false, false, false, false, false, false, false] rfl rfl rfl rfl rfl rfl (HT.any (by kernel_rfl)) (by exact pMv (.inl rfl) rfl) (by decide) ?_
          refine ePureBG (i := 12) #[true, true, true, true, true, true, true, true, true, true, true, true, true, false, false, false, false, false, false, false, false, false, false, false] rfl rfl rfl rfl rfl rfl (HT.any (by kernel_rfl)) (by exact pSub rfl rfl rfl (by omega) (by omega)) (by decide) ?_
          obtain ⟨b, hb⟩ : ∃ b, db[i - 1]? = some b := ⟨_, List.getElem?_eq_getElem (by omega)⟩
          refine ePureBG (i := 13) #[true, true, true, true, true, true, true, true, true, true, true, true, true, true, false, false, false, false, false, false, false, false, false, false] rfl rfl rfl rfl rfl rfl (HT.any (by kernel_rfl)) (by exact pIdxS rfl rfl rfl es_29 (by omega) (by rw [show ((i : Int) - 1).toNat = i - 1 by omega]; exact map_get (f := lsaC) hb)) (by decide) ?_
          refine ePureBG (i := 14) #[true, true, true, true, true, true, true, true, true, true, true, true, true, true, true, false, false, false, false, false, false, false, false, false] rfl rfl rfl rfl rfl rfl (HT.any (by kernel_rfl)) (by first | exact pFldB rfl rfl fd_52_0 | exact pFldS rfl rfl fd_52_0) (by decide) ?_
          refine eTakeG (i := 15) #[true, true, true, true, true, true, true, true, true, true, true, true, true, true, true, true, false, false, false, false, false, false, false, false] rfl rfl rfl rfl rfl rfl (HT.take (by kernel_rfl)) (by first | exact rLdS1 rfl rfl ty_3 rfl | exact rLdB1 rfl rfl (by repeat constructor) ty_3 rfl) (by decide) ?_
          refine ePureBG (i := 16) #[true, true, true, true, true, true, true, true, true, true, true, true, true, true, true, true, true, false, false, false, false, false, false, false] rfl rfl rfl rfl rfl rfl (HT.any (by kernel_rfl)) (by exact pMv (.inl rfl) rfl) (by decide) ?_
          refine ePureBG (i := 17) #[true, true, true, true, true, true, true, true, true, true, true, true, true, true, true, true, true, true, false, false, false, false, false, false] rfl rfl rfl rfl rfl rfl (HT.any (by kernel_rfl)) (by exact pMv (.inl rfl) rfl) (by decide) ?_
          refine ePureBG (i := 18) #[true, true, true, true, true, true, true, true, true, true, true, true, true, true, true, true, true, true, true, false, false, false, false, false] rfl rfl rfl rfl rfl rfl (HT.any (by kernel_rfl)) (by exact pIdxS rfl rfl rfl es_29 (by omega) (map_get (f := lsaC) ha)) (by decide) ?_
          refine ePureBG (i := 19) #[true, true, true, true, true, true, true, true, true, true, true, true, true, true, true, true, true, true, true, true, false, false, false, false] rfl rfl rfl rfl rfl rfl (HT.any (by kernel_rfl)) (by first | exact pFldB rfl rfl fd_52_0 | exact pFldS rfl rfl fd_52_0) (by decide) ?_
          refine eTakeG (i := 20) #[true, true, true, true, true, true, true, true, true, true, true, true, true, true, true, true, true, true, true, true, true, false, false, false] rfl rfl rfl rfl rfl rfl (HT.take (by kernel_rfl)) (by first | exact rLdS1 rfl rfl ty_3 rfl | exact rLdB1 rfl rfl (by repeat constructor) ty_3 rfl) (by decide) ?_
          refine ePureBG (i := 21) #[true, true, true, true, true, true, true, true, true, true, true, true, true, true, true, true, true, true, true, true, true, true, false, false] rfl rfl rfl rfl rfl rfl (HT.any (by kernel_rfl)) (by exact pBin rfl rfl rfl rfl rfl) (by decide) ?_
          refine ePureBG (i := 22) #[true, true, true, true, true, true, true, true, true, true, true, true, true, true, true, true, true, true, true, true, true, true, true, false] rfl rfl rfl rfl rfl rfl (HT.any (by kernel_rfl)) (by exact pPick rfl rfl rfl) (by decide) ?_
          refine ePureF (i := 23) #[true, true, true, true, true, true, true, true, true, true, true, true, true, true, true, true, true, true, true, true, true, true, true, true] rfl rfl rfl rfl (HT.any (by kernel_rfl)) (by exact pPick rfl rfl rfl) (by decide) ?_
          refine eLast (fEnd (HT.done (by kernel_rfl)) ?_)
          clear HT
          refine aCondDec rfl (fun c33 => ?_) (fun c33 => ?_)
          · skip
            refine aSeq ?_
            refine aReg ?_
            refine oP rfl (by exact pMv (.inr rfl) rfl) rfl (by decide) ?_
            refine oNil ?_
            refine aRet ?_
            refine ⟨_, [], _, rfl, .nil, ?_, rfl⟩
            show AV.v (.bool false) = _
            have hs := lsdb_step (last := prevO db i) ha
            rw [hv, hs]
            first | (have hq : ¬ b.o < a.o := by omega
                     rw [prevO_eq (by omega) hb]
                     simp [hq]; done) | (simp_all; done)
          · skip
            refine aSkip ?_
            refine aReg ?_
            refine oP rfl (by exact pMv (.inl rfl) rfl) rfl (by decide) ?_
            refine oP rfl (by exact pAdd rfl rfl rfl (by omega) (by omega)) rfl (by decide) ?_
            refine oP rfl (by exact pMv (.inr rfl) rfl) rfl (by decide) ?_
            refine oNil ?_
            have hs := lsdb_step (last := prevO db i) ha
            refine ⟨i + 1, ⟨by omega, ?_⟩, by show db.length - (i + 1) < db.length - i; omega, weak_sub ⟨rfl, gInt rfl (by simp), trivial⟩ .nil⟩
            rw [hv, hs, prevO_succ ha]
            by_cases h0 : i = 0
            · rw [prevO_zero h0]
              have hq : 0 < a.o := by simp only [lsaB, nodeB, Bool.and_eq_true, decide_eq_true_eq] at c16; omega
              simp_all
            · first | (have hp := prevO_eq (by omega) hb; rw [hp]; simp_all; done) | omega
        · skip
          refine eSkipF (i := 10) #[true, true, true, true, true, true, true, true, true, true, true, false, false, false, false, false, false, false, false, false, false, false, false, false] rfl rfl rfl rfl rfl rfl rfl (HT.any (by kernel_rfl)) (by decide) ?_
          refine eSkipF (i := 11) #[true, true, true, true, true, true, true, true, true, true, true, true, false, false, false, false, false, false, false, false, false, false, false, false] rfl rfl rfl rfl rfl rfl rfl (HT.any (by kernel_rfl)) (by decide) ?_
          refine eSkipF (i := 12) #[true, true, true, true, true, true, true, true, true, true, true, true, true, false, false, false, false, false, false, false, false, false, false, false] rfl rfl rfl rfl rfl rfl rfl (HT.any (by kernel_rfl)) (by decide) ?_
          obtain ⟨b, hb⟩ : ∃ b, db[i - 1]? = some b := ⟨_, List.getElem?_eq_getElem (by omega)⟩
          refine eSkipF (i := 13) #[true, true, true, true, true, true, true, true, true, true, true, true, true, true, false, false, false, false, false, false, false, false, false, false] rfl rfl rfl rfl rfl rfl rfl (HT.any (by kernel_rfl)) (by decide) ?_
          refine eSkipF (i := 14) #[true, true, true, true, true, true, true, true, true, true, true, true, true, true, true, false, false, false, false, false, false, false, false, false] rfl rfl rfl rfl rfl rfl rfl (HT.any (by kernel_rfl)) (by decide) ?_
          refine eSkipF (i := 16) #[true, true, true, true, true, true, true, true, true, true, true, true, true, true, true, false, true, false, false, false, false, false, false, false] rfl rfl rfl rfl rfl rfl rfl (HT.any (by kernel_rfl)) (by decide) ?_
          refine eSkipF (i := 17) #[true, true, true, true, true, true, true, true, true, true, true, true, true, true, true, false, true, true, false, false, false, false, false, false] rfl rfl rfl rfl rfl rfl rfl (HT.any (by kernel_rfl)) (by decide) ?_
          refine eSkipF (i := 18) #[true, true, true, true, true, true, true, true, true, true, true, true, true, true, true, false, true, true, true, false, false, false, false, false] rfl rfl rfl rfl rfl rfl rfl (HT.any (by kernel_rfl)) (by decide) ?_
          refine eSkipF (i := 19) #[true, true, true, true, true, true, true, true, true, true, true, true, true, true, true, false, true, true, true, true, false, false, false, false] rfl rfl rfl rfl rfl rfl rfl (HT.any (by kernel_rfl)) (by decide) ?_
          refine eSkipF (i := 15) #[true, true, true, true, true, true, true, true, true, true, true, true, true, true, true, true, true, true, true, true, false, false, false, false] rfl rfl rfl rfl rfl rfl rfl (HT.any (by kernel_rfl)) (by decide) ?_
          refine eSkipF (i := 20) #[true, true, true, true, true, true, true, true, true, true, true, true, true, true, true, true, true, true, true, true, true, false, false, false] rfl rfl rfl rfl rfl rfl rfl (HT.any (by kernel_rfl)) (by decide) ?_
          refine eSkipF (i := 21) #[true, true, true, true, true, true, true, true, true, true, true, true, true, true, true, true, true, true, true, true, true, true, false, false] rfl rfl rfl rfl rfl rfl rfl (HT.any (by kernel_rfl)) (by decide) ?_
          refine ePureGF (i := 22) #[true, true, true, true, true, true, true, true, true, true, true, true, true, true, true, true, true, true, true, true, true, true, true, false] rfl rfl rfl rfl rfl rfl rfl (HT.any (by kernel_rfl)) (by exact pPick rfl rfl rfl) (by decide) ?_
          refine ePureF (i := 23) #[true, true, true, true, true, true, true, true, true, true, true, true, true, true, true, true, true, true, true, true, true, true, true, true] rfl rfl rfl rfl (HT.any (by kernel_rfl)) (by exact pPick rfl rfl rfl) (by decide) ?_
          refine eLast (fEnd (HT.done (by kernel_rfl)) ?_)
          clear HT
          refine aCondF rfl ?_
          refine aSkip ?_
          refine aReg ?_
          refine oP rfl (by exact pMv (.inl rfl) rfl) rfl (by decide) ?_
          refine oP rfl (by exact pAdd rfl rfl rfl (by omega) (by omega)) rfl (by decide) ?_
          refine oP rfl (by exact pMv (.inr rfl) rfl) rfl (by decide) ?_
          refine oNil ?_
          have hs := lsdb_step (last := prevO db i) ha
          refine ⟨i + 1, ⟨by omega, ?_⟩, by show db.length - (i + 1) < db.length - i; omega, weak_sub ⟨rfl, gInt rfl (by simp), trivial⟩ .nil⟩
          rw [hv, hs, prevO_succ ha]
          by_cases h0 : i = 0
          · rw [prevO_zero h0]
            have hq : 0 < a.o := by simp only [lsaB, nodeB, Bool.and_eq_true, decide_eq_true_eq] at c16; omega
            simp_all
          · first | (have hp := prevO_eq (by omega) hb; rw [hp]; simp_all; done) | omega
    · skip
      refine aExit rfl ?_
      refine aSeq ?_
      refine aReg ?_
      refine oP rfl (by exact pMv (.inr rfl) rfl) rfl (by decide) ?_
      refine oNil ?_
      refine aRet ?_
      refine ⟨_, [], _, rfl, .nil, ?_, rfl⟩
      show AV.v (.bool true) = _
      rw [hv, List.drop_of_length_le (by omega)]
      rfl

/- waymarkref24.Same -/
def ref24_Same_r6_T : Bool × List (List Nat × List Nat) := (true, [([], []), ([], []), ([0, 1], [0, 1]), ([2], [2]), ([], []), ([], []), ([4, 5], [4, 5]), ([6], [6]), ([3, 7], [3, 7])])
def ref24_Same_r6_B : List Nat := [0, 0, 3, 7, 0, 0, 48, 112, 255]
theorem ref24_Same_r6_t : Go.Proofs.YtmkphhjlmhhokaaW.PrintLast.rtab .any (Go.Proofs.YtmkphhjlmhhokaaW.PrintLast.opsOf Try.f14 6) = ref24_Same_r6_T := by kernel_rfl
theorem ref24_Same_r6_b : Go.Proofs.YtmkphhjlmhhokaaW.PrintLast.waitsOk ref24_Same_r6_T.2 ref24_Same_r6_B = true := by kernel_rfl
set_option maxRecDepth 100000 in
set_option maxHeartbeats 400000 in
theorem ref24_Same (l m : List Arc) (hl : l.length ≤ 4000000) (hm : m.length ≤ 4000000) : Triple Try.prog 14 [AV.sl 3 (l.map arcC), AV.sl 3 (m.map arcC)] [] (fun r h' => r = .v (.bool (decide (l = m))) ∧ h' = []) := by
  refine triple_of Try.func14 rfl (by kernel_rfl) rfl (by simp) ?_
  refine aSeq ?_
  refine aReg ?_
  refine oP rfl (by exact pMv (.inr rfl) rfl) rfl (by decide) ?_
  refine oNil ?_
  refine aSeq ?_
  refine aSeq ?_
  refine aReg ?_
  refine oP rfl (by exact pMv (.inl rfl) rfl) rfl (by decide) ?_
  refine oP rfl (by first | exact pLenS' (pLenS rfl rfl sl_31) (List.length_map _) | exact pLenS rfl rfl sl_31 | exact pLenV rfl rfl sl_31) rfl (by decide) ?_
  refine oP rfl (by exact pMv (.inl rfl) rfl) rfl (by decide) ?_
  refine oP rfl (by first | exact pLenS' (pLenS rfl rfl sl_31) (List.length_map _) | exact pLenS rfl rfl sl_31 | exact pLenV rfl rfl sl_31) rfl (by decide) ?_
  refine oP rfl (by exact pBin rfl rfl rfl rfl rfl) rfl (by decide) ?_
  refine oNil ?_
  refine aCondNe rfl (fun c10 => ?_) (fun c10 => ?_)
  · skip
    refine aSeq ?_
    refine aReg ?_
    refine oP rfl (by exact pMv (.inr rfl) rfl) rfl (by decide) ?_
    refine oNil ?_
    refine aRet ?_
    refine ⟨_, [], _, rfl, .nil, ?_, rfl⟩
    show AV.v (.bool false) = _
    have hn : l ≠ m := fun e => by subst e; exact absurd c10 (by simp)
    simp [hn]
  · skip
    refine aSkip ?_
    refine aSeq ?_
    refine aSeq ?_
    have hlm : l.length = m.length := by omega
    refine aReg ?_
    refine oP rfl (by exact pMv (.inr rfl) rfl) rfl (by decide) ?_
    refine oNil ?_
    refine aBlock ?_
    refine aLoopI (α := Nat) (fun i => i ≤ l.length ∧ l.take i = m.take i) (fun i => ([(0, AV.sl 3 (l.map arcC)), (1, AV.sl 3 (m.map arcC)), (5, .int i)], [])) (fun i => l.length - i) 0 ?_ ?_ ?_
    · skip
      exact ⟨by omega, rfl⟩
    · skip
      exact weak_sub ⟨rfl, rfl, gInt rfl (by simp), trivial⟩ .nil
    · rintro i ⟨hi, hv⟩
      skip
      refine aSeq ?_
      refine aSeq ?_
      refine aReg ?_
      refine oP rfl (by exact pMv (.inl rfl) rfl) rfl (by decide) ?_
      refine oP rfl (by exact pMv (.inl rfl) rfl) rfl (by decide) ?_
      refine oP rfl (by first | exact pLenS' (pLenS rfl rfl sl_31) (List.length_map _) | exact pLenS rfl rfl sl_31 | exact pLenV rfl rfl sl_31) rfl (by decide) ?_
      refine oP rfl (by exact pBin rfl rfl rfl rfl rfl) rfl (by decide) ?_
      refine oNil ?_
      refine aCondDec rfl (fun c14 => ?_) (fun c14 => ?_)
      · skip
        refine aSkip ?_
        refine aSeq ?_
        refine aBlock ?_
        refine aSeq ?_
        refine aDrawT ref24_Same_r6_t ref24_Same_r6_b [] 9 #[false, false, false, false, false, false, false, false, false] (by kernel_rfl) rfl rfl (fun HT => ?_)
        refine dPure (i := 0) #[true, false, false, false, false, false, false, false, false] rfl rfl rfl (HT.any (by kernel_rfl)) (by exact pMv (.inl rfl) rfl) (by decide) ?_
        refine dPure (i := 1) #[true, true, false, false, false, false, false, false, false] rfl rfl rfl (HT.any (by kernel_rfl)) (by exact pMv (.inl rfl) rfl) (by decide) ?_
        obtain ⟨a, ha⟩ : ∃ a, l[i]? = some a := ⟨_, List.getElem?_eq_getElem (by omega)⟩
        obtain ⟨b, hb⟩ : ∃ b, m[i]? = some b := ⟨_, List.getElem?_eq_getElem (by omega)⟩
        refine dPure (i := 2) #[true, true, true, false, false, false, false, false, false] rfl rfl rfl (HT.any (by kernel_rfl)) (by exact pIdxS rfl rfl rfl es_31 (by omega) (map_get (f := arcC) ha)) (by decide) ?_
        refine dTake (i := 3) #[true, true, true, true, false, false, false, false, false] rfl rfl rfl (HT.take (by kernel_rfl)) (by first | exact rLdSA rfl rfl ty_34 (Nat.le_of_ble_eq_true rfl) | exact rLdBA rfl rfl (by repeat constructor) ty_34 (Nat.le_of_ble_eq_true rfl)) (by decide) ?_
        refine dPure (i := 4) #[true, true, true, true, true, false, false, false, false] rfl rfl rfl (HT.any (by kernel_rfl)) (by exact pMv (.inl rfl) rfl) (by decide) ?_
        refine dPure (i := 5) #[true, true, true, true, true, true, false, false, false] rfl rfl rfl (HT.any (by kernel_rfl)) (by exact pMv (.inl rfl) rfl) (by decide) ?_
        refine dPure (i := 6) #[true, true, true, true, true, true, true, false, false] rfl rfl rfl (HT.any (by kernel_rfl)) (by exact pIdxS rfl rfl rfl es_31 (by omega) (map_get (f := arcC) hb)) (by decide) ?_
        refine dTake (i := 7) #[true, true, true, true, true, true, true, true, false] rfl rfl rfl (HT.take (by kernel_rfl)) (by first | exact rLdSA rfl rfl ty_34 (Nat.le_of_ble_eq_true rfl) | exact rLdBA rfl rfl (by repeat constructor) ty_34 (Nat.le_of_ble_eq_true rfl)) (by decide) ?_
        refine dPure (i := 8) #[true, true, true, true, true, true, true, true, true] rfl rfl rfl (HT.any (by kernel_rfl)) (by exact pEqA rfl (.inr rfl) rfl rfl eq_34 rfl rfl) (by decide) ?_
        refine dEnd (HT.done (by kernel_rfl)) ?_
        clear HT
        refine aCond rfl (fun c25 => ?_) (fun c25 => ?_)
        · skip
          refine aSeq ?_
          refine aReg ?_
          refine oP rfl (by exact pMv (.inr rfl) rfl) rfl (by decide) ?_
          refine oNil ?_
          refine aRet ?_
          refine ⟨_, [], _, rfl, .nil, ?_, rfl⟩
          show AV.v (.bool false) = _
          have hn : l ≠ m := fun e => by
            subst e
            rw [ha] at hb
            cases hb
            simp at c25
          simp [hn]
        · skip
          refine aSkip ?_
          refine aReg ?_
          refine oP rfl (by exact pMv (.inl rfl) rfl) rfl (by decide) ?_
          refine oP rfl (by exact pAdd rfl rfl rfl (by omega) (by omega)) rfl (by decide) ?_
          refine oP rfl (by exact pMv (.inr rfl) rfl) rfl (by decide) ?_
          refine oNil ?_
          refine ⟨i + 1, ⟨by omega, ?_⟩, by show l.length - (i + 1) < l.length - i; omega, weak_sub ⟨rfl, rfl, gInt rfl (by simp), trivial⟩ .nil⟩
          rw [take_step ha, take_step hb, hv]
          obtain ⟨a1, a2, a3⟩ := a
          obtain ⟨b1, b2, b3⟩ := b
          simp_all
      · skip
        refine aExit rfl ?_
        refine aSeq ?_
        refine aReg ?_
        refine oP rfl (by exact pMv (.inr rfl) rfl) rfl (by decide) ?_
        refine oNil ?_
        refine aRet ?_
        refine ⟨_, [], _, rfl, .nil, ?_, rfl⟩
        show AV.v (.bool true) = _
        rw [List.take_of_length_le (by omega), List.take_of_length_le (by omega)] at hv
        simp [hv]

/- waymarkref09.Cost -/
set_option maxRecDepth 100000 in
set_option maxHeartbeats 400000 in
theorem ref09_Cost (l : Lsa) (n : Int) (hl : l.ls.length ≤ 4000) : Triple Try.prog 35 [AV.agg (lsaC l), AV.int n] [] (fun r h' => r = .int (costL l.ls n) ∧ h' = []) := by
  refine triple_of Try.func35 rfl (by kernel_rfl) rfl (by simp) ?_
  refine aSeq ?_
  refine aReg ?_
  refine oQ rfl ?_
  refine qBox rfl rfl (by decide) rfl rfl (fun b2 => ?_)
  refine oP rfl (by exact pMv (.inr rfl) rfl) rfl (by decide) ?_
  refine oNil ?_
  refine aSeq ?_
  refine aSeq ?_
  refine aReg ?_
  refine oP rfl (by exact pMv (.inr rfl) rfl) rfl (by decide) ?_
  refine oNil ?_
  refine aBlock ?_
  refine aLoopI (α := Nat) (fun i => i ≤ l.ls.length ∧ costL l.ls n = costL (l.ls.drop i) n) (fun i => ([(1, .int n), (2, .v (.pointer (some ⟨b2, 0, none⟩))), (5, .int i)], [.box b2 (lsaC l)])) (fun i => l.ls.length - i) 0 ?_ ?_ ?_
  · skip
    exact ⟨by omega, rfl⟩
  · skip
    exact weak_sub ⟨rfl, rfl, gInt rfl (by simp), trivial⟩ (by repeat constructor)
  · rintro i ⟨hi, hv⟩
    skip
    refine aSeq ?_
    refine aSeq ?_
    refine aReg ?_
    refine oP rfl (by exact pMv (.inl rfl) rfl) rfl (by decide) ?_
    refine oP rfl (by first | exact pFldB rfl rfl fd_52_2 | exact pFldS rfl rfl fd_52_2) rfl (by decide) ?_
    refine oR rfl (by first | exact rLdS1 rfl rfl ty_50 rfl | exact rLdB1 rfl rfl (by repeat constructor) ty_50 rfl) rfl (by decide) ?_
    refine oP rfl (by first | exact pLenS' (pLenS rfl rfl sl_50) (List.length_map _) | exact pLenS rfl rfl sl_50 | exact pLenV rfl rfl sl_50) rfl (by decide) ?_
    refine oP rfl (by exact pBin rfl rfl rfl rfl rfl) rfl (by decide) ?_
    refine oNil ?_
    refine aCondDec rfl (fun c10 => ?_) (fun c10 => ?_)
    · skip
      refine aSkip ?_
      refine aSeq ?_
      refine aBlock ?_
      refine aSeq ?_
      refine aReg ?_
      refine oP rfl (by first | exact pFldB rfl rfl fd_52_2 | exact pFldS rfl rfl fd_52_2) rfl (by decide) ?_
      refine oR rfl (by first | exact rLdS1 rfl rfl ty_50 rfl | exact rLdB1 rfl rfl (by repeat constructor) ty_50 rfl) rfl (by decide) ?_
      refine oP rfl (by exact pMv (.inl rfl) rfl) rfl (by decide) ?_
      obtain ⟨a, ha⟩ : ∃ a, l.ls[i]? = some a := ⟨_, List.getElem?_eq_getElem (by omega)⟩
      refine oP rfl (by exact pIdxS rfl rfl rfl es_50 (by omega) (map_get (f := linkC) ha)) rfl (by decide) ?_
      refine oP rfl (by first | exact pFldB rfl rfl fd_54_0 | exact pFldS rfl rfl fd_54_0) rfl (by decide) ?_
      refine oR rfl (by first | exact rLdS1 rfl rfl ty_3 rfl | exact rLdB1 rfl rfl (by repeat constructor) ty_3 rfl) rfl (by decide) ?_
      refine oP rfl (by exact pMv (.inl rfl) rfl) rfl (by decide) ?_
      refine oP rfl (by exact pBin rfl rfl rfl rfl rfl) rfl (by decide) ?_
      refine oNil ?_
      refine aCondEq rfl (fun c20 => ?_) (fun c20 => ?_)
      · skip
        refine aSeq ?_
        refine aReg ?_
        refine oP rfl (by first | exact pFldB rfl rfl fd_52_2 | exact pFldS rfl rfl fd_52_2) rfl (by decide) ?_
        refine oR rfl (by first | exact rLdS1 rfl rfl ty_50 rfl | exact rLdB1 rfl rfl (by repeat constructor) ty_50 rfl) rfl (by decide) ?_
        refine oP rfl (by exact pMv (.inl rfl) rfl) rfl (by decide) ?_
        refine oP rfl (by exact pIdxS rfl rfl rfl es_50 (by omega) (map_get (f := linkC) ha)) rfl (by decide) ?_
        refine oP rfl (by first | exact pFldB rfl rfl fd_54_1 | exact pFldS rfl rfl fd_54_1) rfl (by decide) ?_
        refine oR rfl (by first | exact rLdS1 rfl rfl ty_3 rfl | exact rLdB1 rfl rfl (by repeat constructor) ty_3 rfl) rfl (by decide) ?_
        refine oP rfl (by exact pMv (.inr rfl) rfl) rfl (by decide) ?_
        refine oNil ?_
        refine aRet ?_
        refine ⟨_, [], _, rfl, .nil, ?_, rfl⟩
        show AV.int _ = AV.int _
        rw [hv, drop_step ha]
        simp [costL, c20]
      · skip
        refine aSkip ?_
        refine aReg ?_
        refine oP rfl (by exact pMv (.inl rfl) rfl) rfl (by decide) ?_
        refine oP rfl (by exact pAdd rfl rfl rfl (by omega) (by omega)) rfl (by decide) ?_
        refine oP rfl (by exact pMv (.inr rfl) rfl) rfl (by decide) ?_
        refine oNil ?_
        refine ⟨i + 1, ⟨by omega, ?_⟩, by show l.ls.length - (i + 1) < l.ls.length - i; omega, weak_sub ⟨rfl, rfl, gInt rfl (by simp), trivial⟩ (by repeat constructor)⟩
        rw [hv, drop_step ha]
        simp [costL, c20]
    · skip
      refine aExit rfl ?_
      refine aSeq ?_
      refine aReg ?_
      refine oP rfl (by exact pMv (.inr rfl) rfl) rfl (by decide) ?_
      refine oNil ?_
      refine aRet ?_
      refine ⟨_, [], _, rfl, .nil, ?_, rfl⟩
      show AV.int 0 = AV.int _
      rw [hv, List.drop_of_length_le (by omega)]
      rfl

theorem cast_lsa0 : Cast (.agg [.int 0, .int 0, .v (.slice none 0 0)]) (.agg (lsaC ⟨0, 0, []⟩)) := by
  refine cast_aggs rfl (fun i y c hy hc => ?_)
  match i with
  | 0 => simp at hy; subst hy; simp [lsaC] at hc; subst hc; exact Cast.refl
  | 1 => simp at hy; subst hy; simp [lsaC] at hc; subst hc; exact Cast.refl
  | 2 => simp at hy; subst hy; simp [lsaC] at hc; subst hc; exact cast_nil
  | i + 3 => simp at hy

/- waymarkref11.Get -/
set_option maxRecDepth 100000 in
set_option maxHeartbeats 400000 in
theorem ref11_Get (db : List Lsa) (n : Int) (hl : db.length ≤ 4000) : Triple Try.prog 36 [AV.sl 3 (db.map lsaC), AV.int n] [] (fun r h' => r = .agg (lsaC (refGet db n)) ∧ h' = []) := by
  refine triple_ofR Try.func36 rfl (by kernel_rfl) rfl (by simp) ?_
  refine aSeq ?_
  refine aReg ?_
  refine oQ rfl ?_
  refine qAlloc rfl rfl (by decide) ze_52 rfl (fun b4 => ?_)
  refine oNil ?_
  refine aSeq ?_
  refine aSeq ?_
  refine aReg ?_
  refine oP rfl (by exact pMv (.inr rfl) rfl) rfl (by decide) ?_
  refine oNil ?_
  refine aBlock ?_
  refine aLoopI (α := Nat × List AV) (fun (i, z) => i ≤ db.length ∧ refGet db n = refGet (db.drop i) n ∧ z.length = 3) (fun (i, z) => ([(0, AV.sl 3 (db.map lsaC)), (1, .int n), (4, .v (.pointer (some ⟨b4, 0, none⟩))), (5, .int i)], [.box b4 z])) (fun (i, z) => db.length - i) (0, [.int 0, .int 0, .v (.slice none 0 0)]) ?_ ?_ ?_
  · skip
    exact ⟨by omega, rfl, rfl⟩
  · skip
    exact weak_sub ⟨rfl, rfl, rfl, gInt rfl (by simp), trivial⟩ (by repeat constructor)
  · rintro ⟨i, z⟩ ⟨hi, hv, hz⟩
    skip
    refine aSeq ?_
    refine aSeq ?_
    refine aReg ?_
    refine oP rfl (by exact pMv (.inl rfl) rfl) rfl (by decide) ?_
    refine oP rfl (by exact pMv (.inl rfl) rfl) rfl (by decide) ?_
    refine oP rfl (by first | exact pLenS' (pLenS rfl rfl sl_29) (List.length_map _) | exact pLenS rfl rfl sl_29 | exact pLenV rfl rfl sl_29) rfl (by decide) ?_
    refine oP rfl (by exact pBin rfl rfl rfl rfl rfl) rfl (by decide) ?_
    refine oNil ?_
    refine aCondDec rfl (fun c9 => ?_) (fun c9 => ?_)
    · skip
      refine aSkip ?_
      refine aSeq ?_
      refine aBlock ?_
      refine aSeq ?_
      refine aReg ?_
      refine oP rfl (by exact pMv (.inl rfl) rfl) rfl (by decide) ?_
      refine oP rfl (by exact pMv (.inl rfl) rfl) rfl (by decide) ?_
      obtain ⟨a, ha⟩ : ∃ a, db[i]? = some a := ⟨_, List.getElem?_eq_getElem (by omega)⟩
      obtain ⟨z0, z1, z2, rfl⟩ : ∃ z0 z1 z2, z = [z0, z1, z2] := by
        match z, hz with
        | [z0, z1, z2], _ => exact ⟨z0, z1, z2, rfl⟩
      refine oP rfl (by exact pIdxS rfl rfl rfl es_29 (by omega) (map_get (f := lsaC) ha)) rfl (by decide) ?_
      refine oP rfl (by first | exact pFldB rfl rfl fd_52_0 | exact pFldS rfl rfl fd_52_0) rfl (by decide) ?_
      refine oR rfl (by first | exact rLdS1 rfl rfl ty_3 rfl | exact rLdB1 rfl rfl (by repeat constructor) ty_3 rfl) rfl (by decide) ?_
      refine oP rfl (by exact pMv (.inl rfl) rfl) rfl (by decide) ?_
      refine oP rfl (by exact pBin rfl rfl rfl rfl rfl) rfl (by decide) ?_
      refine oNil ?_
      refine aCondEq rfl (fun c18 => ?_) (fun c18 => ?_)
      · skip
        refine aSeq ?_
        refine aReg ?_
        refine oP rfl (by exact pMv (.inl rfl) rfl) rfl (by decide) ?_
        refine oP rfl (by exact pMv (.inl rfl) rfl) rfl (by decide) ?_
        refine oP rfl (by exact pIdxS rfl rfl rfl es_29 (by omega) (map_get (f := lsaC) ha)) rfl (by decide) ?_
        refine oR rfl (by first | exact rLdSA rfl rfl ty_52 (Nat.le_of_ble_eq_true rfl) | exact rLdBA rfl rfl (by repeat constructor) ty_52 (Nat.le_of_ble_eq_true rfl)) rfl (by decide) ?_
        refine oA rfl ?_
        refine oStB rfl rfl rfl rfl (by repeat constructor) ty_52 rfl (Nat.le_of_ble_eq_true rfl) rfl ?_
        refine oNil ?_
        refine aRet ?_
        refine ⟨_, [], _, .cons (.cellA rfl List.mem_cons_self ty_52) .nil, .nil, ?_, rfl⟩
        show AV.agg _ = AV.agg _
        rw [hv, drop_step ha]
        simp [refGet, c18]
        rfl
      · skip
        refine aSkip ?_
        refine aReg ?_
        refine oP rfl (by exact pMv (.inl rfl) rfl) rfl (by decide) ?_
        refine oP rfl (by exact pAdd rfl rfl rfl (by omega) (by omega)) rfl (by decide) ?_
        refine oP rfl (by exact pMv (.inr rfl) rfl) rfl (by decide) ?_
        refine oNil ?_
        refine ⟨(i + 1, [z0, z1, z2]), ⟨by omega, ?_, hz⟩, by show db.length - (i + 1) < db.length - i; omega, weak_sub ⟨rfl, rfl, rfl, gInt rfl (by simp), trivial⟩ (by repeat constructor)⟩
        rw [hv, drop_step ha]
        simp [refGet, c18]
    · skip
      refine aExit rfl ?_
      refine aSeq ?_
      refine aReg ?_
      obtain ⟨z0, z1, z2, rfl⟩ : ∃ z0 z1 z2, z = [z0, z1, z2] := by
        match z, hz with
        | [z0, z1, z2], _ => exact ⟨z0, z1, z2, rfl⟩
      refine oP rfl (by exact pBuild rfl st_52 ze_52 rfl rfl rfl rfl) rfl (by decide) ?_
      refine oA rfl ?_
      refine oStB rfl rfl rfl rfl (by repeat constructor) ty_52 rfl (Nat.le_of_ble_eq_true rfl) rfl ?_
      refine oNil ?_
      refine aRet ?_
      refine ⟨_, [], _, .cons (.cast (.cellA rfl List.mem_cons_self ty_52) (b := .agg (lsaC ⟨0, 0, []⟩)) ?_) .nil, .nil, ?_, rfl⟩
      · exact cast_lsa0
      show AV.agg _ = AV.agg _
      rw [hv, List.drop_of_length_le (by omega)]
      rfl

end A
end Go.Proofs.Ytmkphhjlmhhokaa
