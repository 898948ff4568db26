/- What functions of the program compute: ref03b -/
import Derived.Test.YtkgemkadebgeoaaBref03
import Derived.Test.YtkgemkadebgeoaaProg
import Derived.KernelRfl
set_option linter.unusedVariables false
set_option linter.unusedSimpArgs false
namespace Go.Proofs.Ytkgemkadebgeoaa
namespace A

theorem sl_81 : isSl Try.prog 81 = true := by kernel_rfl
theorem torn_step {b o : BS} {i x : Nat} (hi : i < o.length) (hx : b[i]? = some x) : ((b.take i ++ o.drop i).map by1).set i (by1 x) = (b.take (i + 1) ++ o.drop (i + 1)).map by1 := by
  have hib := (List.getElem?_eq_some_iff.1 hx).1
  apply List.ext_getElem?
  intro j
  rw [List.getElem?_set, List.getElem?_map, List.getElem?_map]
  by_cases hij : i = j
  · subst hij
    rw [if_pos rfl, if_pos (by simp; omega), List.getElem?_append_left (by simp; omega), List.getElem?_take_of_lt (by omega), hx]
    rfl
  · rw [if_neg hij]
    congr 1
    by_cases hj : j < i
    · rw [List.getElem?_append_left (by simp; omega), List.getElem?_append_left (by simp; omega), List.getElem?_take_of_lt hj, List.getElem?_take_of_lt (by omega)]
    · rw [List.getElem?_append_right (by simp; omega), List.getElem?_append_right (by simp; omega), List.getElem?_drop, List.getElem?_drop]
      congr 1
      simp
      omega
theorem torn_end {b o : BS} {i : Nat} (hi : i ≤ o.length) (hb : i ≤ b.length) (h : b.length ≤ i ∨ o.length ≤ i) : b.take i ++ o.drop i = torn b o := by
  unfold torn
  rcases h with h | h
  · have : i = b.length := by omega
    subst this
    rw [List.take_of_length_le (Nat.le_refl _), List.take_of_length_le (by omega)]
  · have : i = o.length := by omega
    subst this
    rw [List.drop_of_length_le (Nat.le_refl _), List.drop_of_length_le (by omega)]
def waitK (w : DW) (i : Nat) : List Nat := (List.range i).filter fun i => 0 < (w.waits.getD i []).length
theorem waitK_step (w : DW) (i : Nat) : waitK w (i + 1) = waitK w i ++ (if 0 < (w.waits.getD i []).length then [i] else []) := by
  unfold waitK
  rw [List.range_succ, List.filter_append]
  congr 1
  by_cases h : 0 < (w.waits.getD i []).length
  · rw [if_pos h]
    exact List.filter_cons_of_pos (by simpa using h)
  · rw [if_neg h]
    exact List.filter_cons_of_neg (by simpa using h)
theorem waitK_all (w : DW) : waitK w w.waits.length = w.waiting := rfl
theorem waitK_len (w : DW) (i : Nat) : (waitK w i).length ≤ i := by
  have := List.length_filter_le (fun i => decide (0 < (w.waits.getD i []).length)) (List.range i)
  simpa [waitK] using this
def natsA (l : List Nat) : List (List AV) := (l.map (fun i : Nat => (i : Int))).map intA
theorem natsA_len (l : List Nat) : (natsA l).length = l.length := by simp [natsA]
theorem natsA_app (l : List Nat) (i : Nat) : natsA l ++ [[.int (i : Int)]] = natsA (l ++ [i]) := by simp [natsA, intA]

/- waymarkref03.Torn -/
set_option maxRecDepth 100000 in
set_option maxHeartbeats 1000000 in
theorem ref03_Torn (b o : BS) (hb : b.length ≤ 1000000) (ho : o.length ≤ 1000000) : Triple Try.prog 53 [.sl 1 (b.map by1), .sl 1 (o.map by1)] [] (fun q h' => ∃ g c, q = .v (slV g (torn b o).length c) ∧ h' = [.sl g c 5 1 ((torn b o).map by1)]) := by
  refine triple_of Try.func53 rfl (by kernel_rfl) rfl (by simp) ?_
  refine aSeq ?_
  refine aReg ?_
  refine sp pMa ?_
  refine oNil ?_
  refine aSeq ?_
  refine aReg ?_
  refine sq ?_
  refine qLit (l := []) rfl rfl (by decide) us_48 ty_5 ze_5 rfl (by decide) (by decide) rfl rfl rfl (fun b7 => ?_)
  refine sp pM ?_
  refine sa ?_
  refine oApp rfl rfl (by decide) rfl (by repeat constructor) rfl (.inl rfl) el_48 sl_48 by1_len (by simp; omega) (by simp; omega) (fun g9 k9 => ?_)
  refine sp pMa ?_
  refine oNil ?_
  refine aSeq ?_
  refine aSeq ?_
  refine aReg ?_
  refine sp pMa ?_
  refine oNil ?_
  refine aBlock ?_
  refine aLoopI (α := Nat × Option Nat × Nat) (fun (i, g, c) => i ≤ b.length ∧ i ≤ o.length) (fun (i, g, c) => ([(0, .sl 1 (b.map by1)), (1, .sl 1 (o.map by1)), (5, .v (slV g o.length c)), (6, .int i)], [.sl g c 5 1 ((b.take i ++ o.drop i).map by1)])) (fun (i, g, c) => b.length - i) (0, g9, k9) ?_ ?_ ?_
  · skip
    exact ⟨by omega, by omega⟩
  · skip
    exact weak_sub ⟨rfl, rfl, gLen rfl (by simp), rfl, trivial⟩ (.cons .hd .nil)
  · rintro ⟨i, g, c⟩ ⟨hib, hio⟩
    skip
    refine aSeq ?_
    refine aSeq ?_
    refine aReg ?_
    refine sp pM ?_
    refine sp pM ?_
    refine sp (by first | exact pLm sl_48 | exact pLs sl_48 | exact pLv sl_48) ?_
    refine sp pB ?_
    refine sp pM ?_
    refine oSplitDec 14 rfl (fun c14 => ?_) (fun c14 => ?_)
    · skip
      refine gp pM ?_
      refine gp pM ?_
      refine gp (pLenV rfl rfl sl_48) ?_
      refine gp pB ?_
      refine sp pK ?_
      refine oNil ?_
      refine aCondDec rfl (fun c19 => ?_) (fun c19 => ?_)
      · skip
        refine aSkip ?_
        refine aSeq ?_
        refine aBlock ?_
        obtain ⟨x, hx⟩ : ∃ x, b[i]? = some x := ⟨_, List.getElem?_eq_getElem (by omega)⟩
        obtain ⟨y, hy⟩ : ∃ y, (b.take i ++ o.drop i)[i]? = some y := ⟨_, List.getElem?_eq_getElem (by simp; omega)⟩
        refine aSome .hd (ne_map (by simp; omega)) (fun gb hgb => ?_)
        subst hgb
        refine aReg ?_
        refine sp pM ?_
        refine sp pM ?_
        refine sp pM ?_
        refine sp pM ?_
        refine sp (pIdxS rfl rfl rfl es_48 (by omega) (map_get1 (f := by1) hx)) ?_
        refine sr (by first | exact rS1 ty_5 | exact rB1 ty_5) ?_
        refine sp (pIdxO rfl rfl rfl es_48 (by omega) (by omega)) ?_
        refine sa ?_
        refine oStS (i := i) (j := 0) rfl rfl rfl rfl (by repeat constructor) ty_5 rfl (by omega) (map_get1 (f := by1) hy) (by decide) rfl ?_
        rw [show setCells (by1 y) 0 (avCells (AV.v (Value.int .u8 x))) = by1 x from rfl, torn_step (by omega) hx]
        refine oNil ?_
        refine aReg ?_
        refine sp pM ?_
        refine sp pAd ?_
        refine sp pMa ?_
        refine oNil ?_
        refine ⟨(i + 1, _, c), ⟨by omega, by omega⟩, by show b.length - (i + 1) < b.length - i; omega, weak_sub ⟨rfl, rfl, rfl, gInt rfl (by simp), trivial⟩ (.cons .hd .nil)⟩
      · skip
        refine aExit rfl ?_
        refine aSeq ?_
        refine aReg ?_
        refine sp pM ?_
        refine sp pMa ?_
        refine oNil ?_
        refine aRet ?_
        have he := torn_end (b := b) (o := o) hio hib (by first | exact .inl (by omega) | exact .inr (by omega))
        refine ⟨_, [.sl g c 5 1 ((b.take i ++ o.drop i).map by1)], [], rfl, .cons .hd .nil, g, c, ?_, by rw [he]⟩
        rw [← he]
        show AV.v (slV g o.length c) = _
        rw [show (b.take i ++ o.drop i).length = o.length by simp only [List.length_append, List.length_take, List.length_drop]; omega]
    · skip
      refine gf ?_
      refine gf ?_
      refine gf ?_
      refine gf ?_
      refine sp pK ?_
      refine oNil ?_
      refine aCondF rfl ?_
      refine aExit rfl ?_
      refine aSeq ?_
      refine aReg ?_
      refine sp pM ?_
      refine sp pMa ?_
      refine oNil ?_
      refine aRet ?_
      have he := torn_end (b := b) (o := o) hio hib (by first | exact .inl (by omega) | exact .inr (by omega))
      refine ⟨_, [.sl g c 5 1 ((b.take i ++ o.drop i).map by1)], [], rfl, .cons .hd .nil, g, c, ?_, by rw [he]⟩
      rw [← he]
      show AV.v (slV g o.length c) = _
      rw [show (b.take i ++ o.drop i).length = o.length by simp only [List.length_append, List.length_take, List.length_drop]; omega]

/- waymarkref03.Waiting -/
set_option maxRecDepth 100000 in
set_option maxHeartbeats 1000000 in
theorem ref03_Waiting (w : DW) (f : Fit w) : Triple Try.prog 94 [.agg (dwC w)] [] (fun q h' => ∃ g c, q = .v (slV g w.waiting.length c) ∧ h' = [.sl g c 3 1 (natsA w.waiting)]) := by
  have hwn := f.wn
  have hn2 := f.n2
  refine triple_of Try.func94 rfl (by kernel_rfl) rfl (by simp) ?_
  refine aSeq ?_
  refine aReg ?_
  refine sq ?_
  refine qBox rfl rfl (by decide) rfl rfl (fun b1 => ?_)
  refine sp pMa ?_
  refine oNil ?_
  refine aSeq ?_
  refine aReg ?_
  refine sq ?_
  refine qLit (l := []) rfl rfl (by decide) us_103 ty_3 ze_3 rfl (by decide) (by decide) rfl rfl rfl (fun b5 => ?_)
  refine sp pMa ?_
  refine oNil ?_
  refine aSeq ?_
  refine aSeq ?_
  refine aReg ?_
  refine sp pMa ?_
  refine oNil ?_
  refine aBlock ?_
  refine aLoopI (α := Nat × Option Nat × Nat) (fun (i, g, c) => i ≤ w.waits.length) (fun (i, g, c) => ([(1, .v (.pointer (some ⟨b1, 0, none⟩))), (3, .v (slV g (waitK w i).length c)), (4, .int i)], [.sl g c 3 1 (natsA (waitK w i)), .box b1 (dwC w)])) (fun (i, g, c) => w.waits.length - i) (0, some b5, 0) ?_ ?_ ?_
  · skip
    omega
  · skip
    exact weak_sub ⟨rfl, rfl, rfl, trivial⟩ (.cons .hd (.cons .hd .nil))
  · rintro ⟨i, g, c⟩ hi
    skip
    refine aSeq ?_
    refine aSeq ?_
    refine aReg ?_
    refine sp pM ?_
    refine sp (by first | exact pFb fd_83_1 | exact pFs fd_83_1) ?_
    refine sr (by first | exact rS1 ty_81 | exact rB1 ty_81) ?_
    refine sp (by first | exact pLm sl_81 | exact pLs sl_81 | exact pLv sl_81) ?_
    refine sp pB ?_
    refine oNil ?_
    refine aCondDec rfl (fun c10 => ?_) (fun c10 => ?_)
    · skip
      refine aSkip ?_
      refine aSeq ?_
      refine aBlock ?_
      refine aSeq ?_
      have hwl := waitK_len w i
      obtain ⟨x, hx⟩ : ∃ x, w.waits[i]? = some x := ⟨_, List.getElem?_eq_getElem (by omega)⟩
      refine aReg ?_
      refine sp (by first | exact pFb fd_83_1 | exact pFs fd_83_1) ?_
      refine sr (by first | exact rS1 ty_81 | exact rB1 ty_81) ?_
      refine sp pM ?_
      refine sp (pIdxS rfl rfl rfl es_81 (by omega) (map_get1 (f := rowC) hx)) ?_
      refine sr (by first | exact rS1 ty_48 | exact rB1 ty_48) ?_
      refine sp (by first | exact pLm sl_48 | exact pLs sl_48 | exact pLv sl_48) ?_
      refine sp pB ?_
      refine oNil ?_
      refine aCondDec rfl (fun c19 => ?_) (fun c19 => ?_)
      · skip
        refine aReg ?_
        refine sp pM ?_
        refine sp pM ?_
        refine sq ?_
        refine qLit (l := [_]) rfl rfl (by decide) us_103 ty_3 ze_3 rfl (by decide) (by decide) rfl rfl rfl (fun b22 => ?_)
        refine sa ?_
        refine oApp rfl rfl (by decide) rfl (by repeat constructor) (natsA_len _).symm (srcOwn rfl (by repeat constructor) (by first | rfl | simp)) el_103 sl_103 (by intro z hz; rcases List.mem_cons.1 hz with rfl | hz; rfl; cases hz) (by simp [natsA_len]; omega) (by simp [natsA_len]; omega) (fun g23 k23 => ?_)
        refine sp pMa ?_
        refine oNil ?_
        refine aReg ?_
        refine sp pM ?_
        refine sp pAd ?_
        refine sp pMa ?_
        refine oNil ?_
        have hst := waitK_step w i
        rw [getD_get hx] at hst
        first
          | (rw [if_pos (by omega)] at hst
             refine ⟨(i + 1, g23, k23), by show i + 1 ≤ _; omega, by show w.waits.length - (i + 1) < w.waits.length - i; omega, ?_⟩
             dsimp only
             rw [hst, ← natsA_app]
             exact weak_sub ⟨rfl, gLen rfl (by simp [natsA_len]), gInt rfl (by simp), trivial⟩ (.cons .hd (.cons (.tl .hd) .nil)))
          | (rw [if_neg (by omega), List.append_nil] at hst
             refine ⟨(i + 1, g, c), by show i + 1 ≤ _; omega, by show w.waits.length - (i + 1) < w.waits.length - i; omega, ?_⟩
             dsimp only
             rw [hst]
             exact weak_sub ⟨rfl, rfl, gInt rfl (by simp), trivial⟩ (.cons .hd (.cons .hd .nil)))
      · skip
        refine aSkip ?_
        refine aReg ?_
        refine sp pM ?_
        refine sp pAd ?_
        refine sp pMa ?_
        refine oNil ?_
        have hst := waitK_step w i
        rw [getD_get hx] at hst
        first
          | (rw [if_pos (by omega)] at hst
             refine ⟨(i + 1, g23, k23), by show i + 1 ≤ _; omega, by show w.waits.length - (i + 1) < w.waits.length - i; omega, ?_⟩
             dsimp only
             rw [hst, ← natsA_app]
             exact weak_sub ⟨rfl, gLen rfl (by simp [natsA_len]), gInt rfl (by simp), trivial⟩ (.cons .hd (.cons (.tl .hd) .nil)))
          | (rw [if_neg (by omega), List.append_nil] at hst
             refine ⟨(i + 1, g, c), by show i + 1 ≤ _; omega, by show w.waits.length - (i + 1) < w.waits.length - i; omega, ?_⟩
             dsimp only
             rw [hst]
             exact weak_sub ⟨rfl, rfl, gInt rfl (by simp), trivial⟩ (.cons .hd (.cons .hd .nil)))
    · skip
      refine aExit rfl ?_
      refine aSeq ?_
      refine aReg ?_
      refine sp pM ?_
      refine sp pMa ?_
      refine oNil ?_
      refine aRet ?_
      have hie : i = w.waits.length := by omega
      subst hie
      rw [waitK_all]
      exact ⟨_, [_], [_], rfl, .cons .hd .nil, g, c, rfl, rfl⟩

end A
end Go.Proofs.Ytkgemkadebgeoaa
