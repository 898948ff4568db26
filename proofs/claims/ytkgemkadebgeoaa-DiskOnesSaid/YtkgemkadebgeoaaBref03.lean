/- What functions of the program compute: ref03 -/
import Derived.Test.YtkgemkadebgeoaaBdisk03d
import Derived.Test.YtkgemkadebgeoaaProg
import Derived.KernelRfl
set_option linter.unusedVariables false
set_option linter.unusedSimpArgs false
namespace Go.Proofs.Ytkgemkadebgeoaa
namespace A

theorem es_48 : elemSize Try.prog 48 = some 1 := by kernel_rfl
theorem es_81 : elemSize Try.prog 81 = some 1 := by kernel_rfl
theorem fd_83_0 : fieldOf Try.prog 83 0 = some (0, 1, false) := by kernel_rfl
theorem fd_83_1 : fieldOf Try.prog 83 1 = some (1, 1, false) := by kernel_rfl
theorem fd_83_2 : fieldOf Try.prog 83 2 = some (2, 1, false) := by kernel_rfl
theorem fd_83_3 : fieldOf Try.prog 83 3 = some (3, 1, false) := by kernel_rfl
theorem ty_81 : tyOf Try.prog 81 = some (1, false) := by kernel_rfl
theorem ty_83 : tyOf Try.prog 83 = some (4, true) := by kernel_rfl
theorem ze_83 : zeroOf Try.prog 83 = some (.agg #[.slice none 0 0, .slice none 0 0, .int .i64 0, .bool false]) := by kernel_rfl
def rowC (b : BS) : List AV := [bsA b]
structure Fit (w : DW) : Prop where
  wn : w.waits.length = w.safe.length
  n1 : 1 ≤ w.safe.length
  n2 : w.safe.length ≤ 1024
  ws : ∀ b ∈ w.waits, b.length = 0 ∨ b.length = 512
  ss : ∀ b ∈ w.safe, b.length = 512
  a1 : w.armed ≤ 9223372036854775807
theorem rowC_len {l : List BS} : ∀ y ∈ l.map rowC, y.length = 1 := by
  intro y hy
  obtain ⟨b, _, rfl⟩ := List.mem_map.1 hy
  rfl
theorem ne_map {α : Type} {f : α → List AV} {l : List α} (h : 1 ≤ l.length) : l.map f ≠ [] := fun e => by have := congrArg List.length e; simp at this; rw [this] at h; simp at h
theorem getD_get {l : List BS} {i : Nat} {b : BS} (h : l[i]? = some b) : l.getD i [] = b := by simp [List.getD, h]
theorem by1_inj {a b : BS} {i : Nat} {x y : Nat} (ha : a[i]? = some x) (hb : b[i]? = some y) (h : x ≠ y) : a ≠ b := fun e => h (by rw [e, hb] at ha; exact (Option.some.inj ha).symm)

/- waymarkref01.Same -/
def ref01_Same_r6_T : Bool × List (List Nat × List Nat) := (true, [([], []), ([], []), ([0, 1], [0, 1]), ([2], [2]), ([], []), ([], []), ([4, 5], [4, 5]), ([6], [6]), ([3, 7], [3, 7])])
def ref01_Same_r6_B : List Nat := [0, 0, 3, 7, 0, 0, 48, 112, 255]
theorem ref01_Same_r6_t : Go.Proofs.YtkgemkadebgeoaaW.PrintLast.rtab .any (Go.Proofs.YtkgemkadebgeoaaW.PrintLast.opsOf Try.f51 6) = ref01_Same_r6_T := by kernel_rfl
theorem ref01_Same_r6_b : Go.Proofs.YtkgemkadebgeoaaW.PrintLast.waitsOk ref01_Same_r6_T.2 ref01_Same_r6_B = true := by kernel_rfl
set_option maxRecDepth 100000 in
set_option maxHeartbeats 400000 in
theorem ref01_Same (a b : BS) (ha : a.length ≤ 1000000) (hb : b.length ≤ 1000000) : Triple Try.prog 51 [.sl 1 (a.map by1), .sl 1 (b.map by1)] [] (fun q h' => q = .v (.bool (decide (a = b))) ∧ h' = []) := by
  refine triple_of Try.func51 rfl (by kernel_rfl) rfl (by simp) ?_
  refine aSeq ?_
  refine aReg ?_
  refine sp pMa ?_
  refine oNil ?_
  refine aSeq ?_
  refine aSeq ?_
  refine aReg ?_
  refine sp pM ?_
  refine sp (by first | exact pLm sl_48 | exact pLs sl_48) ?_
  refine sp pM ?_
  refine sp (by first | exact pLm sl_48 | exact pLs sl_48) ?_
  refine sp pB ?_
  refine oNil ?_
  refine aCondNe rfl (fun c10 => ?_) (fun c10 => ?_)
  · skip
    refine aSeq ?_
    refine aReg ?_
    refine sp pMa ?_
    refine oNil ?_
    refine aRet ?_
    refine ⟨_, [], _, rfl, .nil, ?_, rfl⟩
    rw [decide_eq_false (fun e => by rw [e] at c10; exact c10 rfl)]
    rfl
  · skip
    refine aSkip ?_
    refine aSeq ?_
    refine aSeq ?_
    refine aReg ?_
    refine sp pMa ?_
    refine oNil ?_
    refine aBlock ?_
    refine aLoopI (α := Nat) (fun i => i ≤ a.length ∧ a.length = b.length ∧ a.take i = b.take i) (fun i => ([(0, .sl 1 (a.map by1)), (1, .sl 1 (b.map by1)), (5, .int i)], [])) (fun i => a.length - i) 0 ?_ ?_ ?_
    · skip
      exact ⟨by omega, by omega, rfl⟩
    · skip
      exact weak_sub ⟨rfl, rfl, rfl, trivial⟩ .nil
    · rintro i ⟨hi, hl, hv⟩
      skip
      refine aSeq ?_
      refine aSeq ?_
      refine aReg ?_
      refine sp pM ?_
      refine sp pM ?_
      refine sp (by first | exact pLm sl_48 | exact pLs sl_48 | exact pLv sl_48) ?_
      refine sp pB ?_
      refine oNil ?_
      refine aCondDec rfl (fun c14 => ?_) (fun c14 => ?_)
      · skip
        refine aSkip ?_
        refine aSeq ?_
        refine aBlock ?_
        refine aSeq ?_
        obtain ⟨x, hx⟩ : ∃ x, a[i]? = some x := ⟨_, List.getElem?_eq_getElem (by omega)⟩
        obtain ⟨y, hy⟩ : ∃ y, b[i]? = some y := ⟨_, List.getElem?_eq_getElem (by omega)⟩
        refine aDrawT ref01_Same_r6_t ref01_Same_r6_b [] 9 #[false, false, false, false, false, false, false, false, false] (by kernel_rfl) rfl rfl (fun HT => ?_)
        refine dp HT 0 rfl pM ?_
        refine dp HT 1 rfl pM ?_
        refine dp HT 2 rfl (pIdxS rfl rfl rfl es_48 (by omega) (map_get1 (f := by1) hx)) ?_
        refine dr HT 3 rfl (by first | exact rS1 ty_5 | exact rB1 ty_5) ?_
        refine dp HT 4 rfl pM ?_
        refine dp HT 5 rfl pM ?_
        refine dp HT 6 rfl (pIdxS rfl rfl rfl es_48 (by omega) (map_get1 (f := by1) hy)) ?_
        refine dr HT 7 rfl (by first | exact rS1 ty_5 | exact rB1 ty_5) ?_
        refine dp HT 8 rfl pB ?_
        refine dE HT ?_
        clear HT
        refine aCondNe rfl (fun c25 => ?_) (fun c25 => ?_)
        · skip
          refine aSeq ?_
          refine aReg ?_
          refine sp pMa ?_
          refine oNil ?_
          refine aRet ?_
          refine ⟨_, [], _, rfl, .nil, ?_, rfl⟩
          rw [decide_eq_false (by1_inj hx hy (fun e => c25 (by rw [e])))]
          rfl
        · skip
          refine aSkip ?_
          refine aReg ?_
          refine sp pM ?_
          refine sp pAd ?_
          refine sp pMa ?_
          refine oNil ?_
          refine ⟨i + 1, ⟨by omega, hl, ?_⟩, by show a.length - (i + 1) < a.length - i; omega, weak_sub ⟨rfl, rfl, gInt rfl (by simp), trivial⟩ .nil⟩
          rw [List.take_add_one, List.take_add_one, hv, hx, hy, show x = y by omega]
      · skip
        refine aExit rfl ?_
        refine aSeq ?_
        refine aReg ?_
        refine sp pMa ?_
        refine oNil ?_
        refine aRet ?_
        refine ⟨_, [], _, rfl, .nil, ?_, rfl⟩
        rw [List.take_of_length_le (by omega), List.take_of_length_le (by omega)] at hv
        rw [decide_eq_true hv]
        rfl

/- waymarkref03.Get -/
set_option maxRecDepth 100000 in
set_option maxHeartbeats 400000 in
theorem ref03_Get (w : DW) (i : Nat) (f : Fit w) (hi : i < w.safe.length) : Triple Try.prog 95 [.agg (dwC w), .int i] [] (fun q h' => q = bsA (w.get i) ∧ h' = []) := by
  have hwn := f.wn
  obtain ⟨x, hx⟩ : ∃ x, w.waits[i]? = some x := ⟨_, List.getElem?_eq_getElem (by omega)⟩
  obtain ⟨y, hy⟩ : ∃ y, w.safe[i]? = some y := ⟨_, List.getElem?_eq_getElem hi⟩
  refine triple_of Try.func95 rfl (by kernel_rfl) rfl (by simp) ?_
  refine aSeq ?_
  refine aReg ?_
  refine sq ?_
  refine qBox rfl rfl (by decide) rfl rfl (fun b2 => ?_)
  refine sp pMa ?_
  refine oNil ?_
  refine aSeq ?_
  refine aSeq ?_
  refine aReg ?_
  refine sp (pFb fd_83_1) ?_
  refine sr (rB1 ty_81) ?_
  refine sp pM ?_
  refine sp (pIdxS rfl rfl rfl es_81 (by omega) (map_get1 (f := rowC) hx)) ?_
  refine sr (by first | exact rS1 ty_48 | exact rB1 ty_48) ?_
  refine sp (by first | exact pLm sl_48 | exact pLs sl_48 | exact pLv sl_48) ?_
  refine sp pB ?_
  refine oNil ?_
  refine aCondDec rfl (fun c11 => ?_) (fun c11 => ?_)
  · skip
    refine aSeq ?_
    refine aReg ?_
    refine sp (pFb fd_83_1) ?_
    refine sr (rB1 ty_81) ?_
    refine sp pM ?_
    refine sp (pIdxS rfl rfl rfl es_81 (by omega) (map_get1 (f := rowC) hx)) ?_
    refine sr (by first | exact rS1 ty_48 | exact rB1 ty_48) ?_
    refine sp pMa ?_
    refine oNil ?_
    refine aRet ?_
    refine ⟨_, [], _, rfl, .nil, ?_, rfl⟩
    rw [DW.get, getD_get hx, if_pos (by omega)]
    rfl
  · skip
    refine aSkip ?_
    refine aSeq ?_
    refine aReg ?_
    refine sp (pFb fd_83_0) ?_
    refine sr (rB1 ty_81) ?_
    refine sp pM ?_
    refine sp (pIdxS rfl rfl rfl es_81 (by omega) (map_get1 (f := rowC) hy)) ?_
    refine sr (by first | exact rS1 ty_48 | exact rB1 ty_48) ?_
    refine sp pMa ?_
    refine oNil ?_
    refine aRet ?_
    refine ⟨_, [], _, rfl, .nil, ?_, rfl⟩
    rw [DW.get, getD_get hx, if_neg (by omega), getD_get hy]
    rfl

/- waymarkref03.act -/
set_option maxRecDepth 100000 in
set_option maxHeartbeats 1000000 in
theorem ref03_act (w : DW) (ha : w.armed ≤ 9223372036854775807) : Triple Try.prog 112 [.agg (dwC w)] [] (fun q h' => q = .tup [.agg (dwC w.act.1), .v (.bool w.act.2)] ∧ h' = []) := by
  refine triple_ofR Try.func112 rfl (by kernel_rfl) rfl (by simp) ?_
  refine aSeq ?_
  refine aReg ?_
  refine sq ?_
  refine qBox rfl rfl (by decide) rfl rfl (fun b1 => ?_)
  refine sq ?_
  refine qAlloc rfl rfl (by decide) ze_83 rfl (fun b2 => ?_)
  refine sp pMa ?_
  refine oNil ?_
  refine aSeq ?_
  refine aSeq ?_
  refine aReg ?_
  refine sp (pFb fd_83_3) ?_
  refine sr (rB1 ty_4) ?_
  refine sp pM ?_
  refine oSplit 6 rfl (fun c6 => ?_) (fun c6 => ?_)
  · skip
    refine gf ?_
    refine gf ?_
    refine gf ?_
    refine sp pK ?_
    refine oNil ?_
    refine aCondT rfl ?_
    refine aSeq ?_
    refine aReg ?_
    refine sp (pFb fd_83_3) ?_
    refine sa ?_
    refine oStB rfl rfl rfl rfl (by repeat constructor) ty_4 rfl (Nat.le_of_ble_eq_true rfl) rfl ?_
    refine oNil ?_
    refine aSeq ?_
    refine aReg ?_
    refine sr (by first | exact rBW ty_83 | exact rBA ty_83) ?_
    refine sa ?_
    refine oStB rfl rfl rfl rfl (by repeat constructor) ty_83 rfl (Nat.le_of_ble_eq_true rfl) rfl ?_
    refine sp pMa ?_
    refine oNil ?_
    refine aRet ?_
    refine ⟨[.agg (dwC w.act.1), .v (.bool w.act.2)], [], _, .cons (.cellA (cs := dwC w.act.1) rfl ?_ ty_83) (.cons (.tmp ?_) .nil), .nil, rfl, rfl⟩
    · have hb : (w.dead || w.armed == 0) = true := by first | (simp_all; done) | (simp; omega)
      have h3 : ¬ (0 < w.armed ∧ w.dead = false) := by rintro ⟨h1, h2⟩; simp [h2] at hb; omega
      simp [setCells, putAll, avCells, dwC, DW.act, hb, h3]
    · have hb : (w.dead || w.armed == 0) = true := by first | (simp_all; done) | (simp; omega)
      simp [DW.act, hb, get]
  · skip
    refine gp (pFb fd_83_2) ?_
    refine gr (rB1 ty_3) ?_
    refine gp pB ?_
    refine sp pK ?_
    refine oNil ?_
    refine aCondEq rfl (fun c10 => ?_) (fun c10 => ?_)
    · skip
      refine aSeq ?_
      refine aReg ?_
      refine sp (pFb fd_83_3) ?_
      refine sa ?_
      refine oStB rfl rfl rfl rfl (by repeat constructor) ty_4 rfl (Nat.le_of_ble_eq_true rfl) rfl ?_
      refine oNil ?_
      refine aSeq ?_
      refine aReg ?_
      refine sr (by first | exact rBW ty_83 | exact rBA ty_83) ?_
      refine sa ?_
      refine oStB rfl rfl rfl rfl (by repeat constructor) ty_83 rfl (Nat.le_of_ble_eq_true rfl) rfl ?_
      refine sp pMa ?_
      refine oNil ?_
      refine aRet ?_
      refine ⟨[.agg (dwC w.act.1), .v (.bool w.act.2)], [], _, .cons (.cellA (cs := dwC w.act.1) rfl ?_ ty_83) (.cons (.tmp ?_) .nil), .nil, rfl, rfl⟩
      · have hb : (w.dead || w.armed == 0) = true := by first | (simp_all; done) | (simp; omega)
        have h3 : ¬ (0 < w.armed ∧ w.dead = false) := by rintro ⟨h1, h2⟩; simp [h2] at hb; omega
        simp [setCells, putAll, avCells, dwC, DW.act, hb, h3]
      · have hb : (w.dead || w.armed == 0) = true := by first | (simp_all; done) | (simp; omega)
        simp [DW.act, hb, get]
    · skip
      refine aSkip ?_
      refine aCutI (α := Unit) (fun _ => w.dead = false ∧ w.armed ≠ 0) (fun _ => ([(1, .v (.pointer (some ⟨b1, 0, none⟩))), (2, .v (.pointer (some ⟨b2, 0, none⟩)))], [.box b1 [rowsA w.safe, rowsA w.waits, .int (if 0 < w.armed then w.armed - 1 else w.armed), .v (.bool w.dead)], .box b2 [.v (.slice none 0 0), .v (.slice none 0 0), .int 0, .v (.bool false)]])) ?_ ?_
      · skip
        refine aSeq ?_
        refine aReg ?_
        refine sp (pFb fd_83_2) ?_
        refine sr (rB1 ty_3) ?_
        refine sp pB ?_
        refine oNil ?_
        refine aCondDec rfl (fun c15 => ?_) (fun c15 => ?_)
        · skip
          refine aReg ?_
          refine sp (pFb fd_83_2) ?_
          refine sr (rB1 ty_3) ?_
          refine sp pSu ?_
          refine sp (pFb fd_83_2) ?_
          refine sa ?_
          refine oStB rfl rfl rfl rfl (by repeat constructor) ty_3 rfl (Nat.le_of_ble_eq_true rfl) rfl ?_
          refine oNil ?_
          refine ⟨(), ⟨by simpa using c6, by omega⟩, ?_⟩
          dsimp only
          first
            | (rw [if_pos (by omega)]; exact weak_sub ⟨rfl, rfl, trivial⟩ (.cons .hd (.cons .hd .nil)))
            | (rw [if_neg (by omega)]; exact weak_sub ⟨rfl, rfl, trivial⟩ (.cons (.tl .hd) (.cons .hd .nil)))
            | (rw [if_neg (by omega)]; exact weak_sub ⟨rfl, rfl, trivial⟩ (.cons .hd (.cons .hd .nil)))
        · skip
          refine aSkip ?_
          refine ⟨(), ⟨by simpa using c6, by omega⟩, ?_⟩
          dsimp only
          first
            | (rw [if_pos (by omega)]; exact weak_sub ⟨rfl, rfl, trivial⟩ (.cons .hd (.cons .hd .nil)))
            | (rw [if_neg (by omega)]; exact weak_sub ⟨rfl, rfl, trivial⟩ (.cons (.tl .hd) (.cons .hd .nil)))
            | (rw [if_neg (by omega)]; exact weak_sub ⟨rfl, rfl, trivial⟩ (.cons .hd (.cons .hd .nil)))
      · rintro _ ⟨hd, ha0⟩
        skip
        refine aSeq ?_
        refine aReg ?_
        refine sr (by first | exact rSW ty_83 rfl | exact rSA ty_83 | exact rBW ty_83 | exact rBA ty_83) ?_
        refine sa ?_
        refine oStB rfl rfl rfl rfl (by repeat constructor) ty_83 rfl (Nat.le_of_ble_eq_true rfl) rfl ?_
        refine sp pMa ?_
        refine oNil ?_
        refine aRet ?_
        refine ⟨[.agg (dwC w.act.1), .v (.bool w.act.2)], [], _, .cons (.cellA (cs := dwC w.act.1) rfl ?_ ty_83) (.cons (.tmp ?_) .nil), .nil, rfl, rfl⟩
        · simp [setCells, putAll, avCells, dwC, DW.act, hd, ha0]
        · simp [DW.act, hd, ha0, get]

end A
end Go.Proofs.Ytkgemkadebgeoaa
