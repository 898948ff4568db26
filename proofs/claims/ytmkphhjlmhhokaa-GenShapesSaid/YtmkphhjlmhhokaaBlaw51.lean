/- What functions of the program compute: law51 -/
import Derived.Test.YtmkphhjlmhhokaaBplain51
import Derived.Test.YtmkphhjlmhhokaaProg
import Derived.KernelRfl
set_option linter.unusedVariables false
set_option linter.unusedSimpArgs false
namespace Go.Proofs.Ytmkphhjlmhhokaa
namespace A

def shapeL (k n col cost : Int) : List Wire := if k = 0 then thoseL n cost pRow else if k = 1 then thoseL n cost (pRing n) else if k = 2 then thoseL n cost pStar else if k = 3 then thoseL n cost pFull else gridL n col cost
theorem filter_meant {n : Nat} {p : Int → Int → Bool} {q : Nat × Nat → Bool} {cost : Int} (h : ∀ x : Nat × Nat, p x.1 x.2 = q x) (hg : goodN n cost = true) : thoseL n cost p = ((pairsL n).filter q).map (wireOf cost) := by
  rw [thoseL, if_pos hg, Int.toNat_natCast]
  congr 1
  exact List.filter_congr (fun x _ => h x)
theorem shapes {k n : Nat} {col : Nat} {cost : Int} (hk : k < 5) (hn1 : 1 ≤ n) (hn : n ≤ 16) (h1 : 1 ≤ cost) (h2 : cost ≤ 1073741824) (hc : k = 4 → 1 ≤ col ∧ col ≤ n) : shapeL k n col cost = refS k n col cost n := by
  have hg : goodN n cost = true := by simp only [goodN, Bool.and_eq_true, decide_eq_true_eq]; omega
  rw [refS_map (fun h => (hc h).1)]
  have key : k ≠ 4 → refP k n col n = (pairsL n).filter (meantN k n 0) := fun hk4 => by
    have := sameP_eq (all_range (all_range shapes0 (i := n) (by omega)) (i := k) (by omega))
    rw [← this]
    have e : ∀ (out : List (Nat × Nat)) (a : Nat), stepP k n col out a = stepP k n 0 out a := fun out a => by
      unfold stepP
      have : Nat.beq k 4 = false := beq_no hk4
      rw [this]; rfl
    unfold refP
    congr 1
    funext out a
    exact e out a
  have b1 : ∀ a b : Nat, ((b : Int) == (a : Int) + 1) = Nat.beq b (a + 1) := fun a b => by rw [Bool.eq_iff_iff, beq_iff_eq, Nat.beq_eq]; omega
  have b2 : ∀ a b : Nat, ((a : Int) == (b : Int)) = Nat.beq a b := fun a b => by rw [Bool.eq_iff_iff, beq_iff_eq, Nat.beq_eq]; omega
  have b4 : ∀ a : Nat, ((a : Int) == 1) = Nat.beq a 1 := fun a => by rw [Bool.eq_iff_iff, beq_iff_eq, Nat.beq_eq]; omega
  have b3 : decide ((3 : Int) ≤ n) = Nat.ble 3 n := by rw [Bool.eq_iff_iff, decide_eq_true_iff, Nat.ble_eq]; omega
  obtain rfl | rfl | rfl | rfl | rfl : k = 0 ∨ k = 1 ∨ k = 2 ∨ k = 3 ∨ k = 4 := by omega
  · rw [key (by decide), shapeL, if_pos (by decide)]
    exact filter_meant (fun x => b1 x.1 x.2) hg
  · rw [key (by decide), shapeL, if_neg (by decide), if_pos (by decide)]
    refine filter_meant (fun x => ?_) hg
    show (((x.2 : Int) == (x.1 : Int) + 1) || ((decide ((3 : Int) ≤ n) && ((x.1 : Int) == 1)) && ((x.2 : Int) == (n : Int)))) = _
    rw [b1, b2, b3, b4]
    rfl
  · rw [key (by decide), shapeL, if_neg (by decide), if_neg (by decide), if_pos (by decide)]
    exact filter_meant (fun x => b4 x.1) hg
  · rw [key (by decide), shapeL, if_neg (by decide), if_neg (by decide), if_neg (by decide), if_pos (by decide)]
    exact filter_meant (fun x => rfl) hg
  · obtain ⟨c1, c2⟩ := hc rfl
    have := sameP_eq (all_range (all_range shapes4 (i := n) (by omega)) (i := col - 1) (by omega))
    rw [show col - 1 + 1 = col by omega] at this
    rw [this, shapeL, if_neg (by decide), if_neg (by decide), if_neg (by decide), if_neg (by decide), gridL, if_pos (by omega)]
    refine filter_meant (fun x => ?_) hg
    show (((x.2 : Int) == (x.1 : Int) + (col : Int)) || (((x.2 : Int) == (x.1 : Int) + 1) && ((x.1 : Int).tmod col != 0))) = _
    have hm : (x.1 : Int).tmod col = ((x.1 % col : Nat) : Int) := rfl
    have b5 : ((x.2 : Int) == (x.1 : Int) + (col : Int)) = Nat.beq x.2 (x.1 + col) := by rw [Bool.eq_iff_iff, beq_iff_eq, Nat.beq_eq]; omega
    have b6 : (((x.1 % col : Nat) : Int) != 0) = !(Nat.beq (x.1 % col) 0) := by
      rw [bne, show ((((x.1 % col : Nat) : Int)) == 0) = Nat.beq (x.1 % col) 0 by rw [Bool.eq_iff_iff, beq_iff_eq, Nat.beq_eq]; omega]
    rw [hm, b1, b5, b6]
    rfl
theorem shape_none {k n col cost : Int} (h : n < 1 ∨ n > 64 ∨ cost < 1 ∨ cost > 1073741824 ∨ (k = 4 ∧ (col < 1 ∨ col > n))) : shapeL k n col cost = [] := by
  have hz : (n < 1 ∨ n > 64 ∨ cost < 1 ∨ cost > 1073741824) → ∀ p, thoseL n cost p = [] := fun h p => by
    rw [thoseL, if_neg]
    simp only [goodN, Bool.and_eq_true, decide_eq_true_eq]
    omega
  have hgr : gridL n col cost = [] ∨ ¬ (n < 1 ∨ n > 64 ∨ cost < 1 ∨ cost > 1073741824) := by
    by_cases h1 : n < 1 ∨ n > 64 ∨ cost < 1 ∨ cost > 1073741824
    · left; rw [gridL]; split
      · exact hz h1 _
      · rfl
    · exact .inr h1
  unfold shapeL
  by_cases h1 : n < 1 ∨ n > 64 ∨ cost < 1 ∨ cost > 1073741824
  · rw [hz h1, hz h1, hz h1, hz h1]
    rcases hgr with h2 | h2
    · rw [h2]; simp
    · exact absurd h1 h2
  · have h4 : k = 4 ∧ (col < 1 ∨ col > n) := by omega
    rw [if_neg (by omega), if_neg (by omega), if_neg (by omega), if_neg (by omega), gridL, if_neg (by omega)]
theorem pairsPre_n {n : Nat} (hn : n ≤ 64) : (pairsL n).length ≤ 64 * 64 + 64 := by
  have := pairsPre_len (n := n) (a := n) (b := n + 1) (by omega) (by omega)
  rw [← pairsPre_all]
  rcases Nat.eq_zero_or_pos n with h | h
  · subst h; simp [pairsPre]
  · rw [← pairsPre_row h (Nat.le_refl n)]
    omega
theorem those_len (n cost : Int) (p : Int → Int → Bool) : (thoseL n cost p).length ≤ 4160 := by
  rw [thoseL]
  split
  · rename_i h
    simp only [goodN, Bool.and_eq_true, decide_eq_true_eq] at h
    rw [List.length_map]
    have h1 := List.length_filter_le (fun q : Nat × Nat => p q.1 q.2) (pairsL n.toNat)
    have h2 := pairsPre_n (n := n.toNat) (by omega)
    omega
  · simp
theorem shapeL_len (k n col cost : Int) : (shapeL k n col cost).length ≤ 4160 := by
  unfold shapeL gridL
  repeat' split
  all_goals first | exact those_len _ _ _ | simp

/- waymarklaw51.shape -/
set_option maxRecDepth 100000 in
set_option maxHeartbeats 400000 in
theorem law51_shape (kv n col cost : Int) : Triple Try.prog 7 [.v (.int .u8 kv), .int n, .int col, .int cost] [] (fun r h' => ∃ g c, r = .v (slV g (shapeL (kv.tmod 5) n col cost).length c) ∧ h' = [.sl g c 46 5 ((shapeL (kv.tmod 5) n col cost).map wireC)]) := by
  refine triple_of Try.func7 rfl (by kernel_rfl) rfl (by simp) ?_
  refine aSeq ?_
  refine aReg ?_
  refine oP rfl (by exact pMv (.inr rfl) rfl) rfl (by decide) ?_
  refine oNil ?_
  refine aSeq ?_
  refine aSeq ?_
  refine aReg ?_
  refine oP rfl (by exact pMv (.inl rfl) rfl) rfl (by decide) ?_
  refine oP rfl (by exact pRem rfl rfl rfl (by first | decide | omega)) rfl (by decide) ?_
  refine oNil ?_
  refine aBlock ?_
  refine aSeq ?_
  refine aReg ?_
  refine oP rfl (by exact pBin rfl rfl rfl rfl rfl) rfl (by decide) ?_
  refine oP rfl (by exact pMv (.inr rfl) rfl) rfl (by decide) ?_
  refine oNil ?_
  refine aCondEq rfl (fun c11 => ?_) (fun c11 => ?_)
  · skip
    refine aSeq ?_
    refine aReg ?_
    refine oP rfl (by exact pMv (.inl rfl) rfl) rfl (by decide) ?_
    refine oP rfl (by exact pMv (.inl rfl) rfl) rfl (by decide) ?_
    refine oA rfl ?_
    refine aCall rfl rfl (by decide) rfl rfl .nil (gen_Row n cost) ?_
    rintro _ _ ⟨g1, c1, rfl, rfl⟩
    refine oP rfl (by exact pMv (.inr rfl) rfl) rfl (by decide) ?_
    refine oNil ?_
    refine aRet ?_
    have hz : shapeL (kv.tmod 5) n col cost = thoseL n cost pRow := by rw [shapeL, if_pos c11]
    rw [hz]
    exact ⟨_, [_], _, rfl, .cons .hd .nil, g1, c1, rfl, rfl⟩
  · skip
    refine aSeq ?_
    refine aReg ?_
    refine oP rfl (by exact pBin rfl rfl rfl rfl rfl) rfl (by decide) ?_
    refine oP rfl (by exact pMv (.inr rfl) rfl) rfl (by decide) ?_
    refine oNil ?_
    refine aCondEq rfl (fun c16 => ?_) (fun c16 => ?_)
    · skip
      refine aSeq ?_
      refine aReg ?_
      refine oP rfl (by exact pMv (.inl rfl) rfl) rfl (by decide) ?_
      refine oP rfl (by exact pMv (.inl rfl) rfl) rfl (by decide) ?_
      refine oA rfl ?_
      refine aCall rfl rfl (by decide) rfl rfl .nil (gen_Ring n cost) ?_
      rintro _ _ ⟨g1, c1, rfl, rfl⟩
      refine oP rfl (by exact pMv (.inr rfl) rfl) rfl (by decide) ?_
      refine oNil ?_
      refine aRet ?_
      have hz : shapeL (kv.tmod 5) n col cost = thoseL n cost (pRing n) := by rw [shapeL, if_neg c11, if_pos c16]
      rw [hz]
      exact ⟨_, [_], _, rfl, .cons .hd .nil, g1, c1, rfl, rfl⟩
    · skip
      refine aSeq ?_
      refine aReg ?_
      refine oP rfl (by exact pBin rfl rfl rfl rfl rfl) rfl (by decide) ?_
      refine oP rfl (by exact pMv (.inr rfl) rfl) rfl (by decide) ?_
      refine oNil ?_
      refine aCondEq rfl (fun c21 => ?_) (fun c21 => ?_)
      · skip
        refine aSeq ?_
        refine aReg ?_
        refine oP rfl (by exact pMv (.inl rfl) rfl) rfl (by decide) ?_
        refine oP rfl (by exact pMv (.inl rfl) rfl) rfl (by decide) ?_
        refine oA rfl ?_
        refine aCall rfl rfl (by decide) rfl rfl .nil (gen_Star n cost) ?_
        rintro _ _ ⟨g1, c1, rfl, rfl⟩
        refine oP rfl (by exact pMv (.inr rfl) rfl) rfl (by decide) ?_
        refine oNil ?_
        refine aRet ?_
        have hz : shapeL (kv.tmod 5) n col cost = thoseL n cost pStar := by rw [shapeL, if_neg c11, if_neg c16, if_pos c21]
        rw [hz]
        exact ⟨_, [_], _, rfl, .cons .hd .nil, g1, c1, rfl, rfl⟩
      · skip
        refine aSeq ?_
        refine aReg ?_
        refine oP rfl (by exact pBin rfl rfl rfl rfl rfl) rfl (by decide) ?_
        refine oP rfl (by exact pMv (.inr rfl) rfl) rfl (by decide) ?_
        refine oNil ?_
        refine aCondEq rfl (fun c26 => ?_) (fun c26 => ?_)
        · skip
          refine aSeq ?_
          refine aReg ?_
          refine oP rfl (by exact pMv (.inl rfl) rfl) rfl (by decide) ?_
          refine oP rfl (by exact pMv (.inl rfl) rfl) rfl (by decide) ?_
          refine oA rfl ?_
          refine aCall rfl rfl (by decide) rfl rfl .nil (gen_Full n cost) ?_
          rintro _ _ ⟨g1, c1, rfl, rfl⟩
          refine oP rfl (by exact pMv (.inr rfl) rfl) rfl (by decide) ?_
          refine oNil ?_
          refine aRet ?_
          have hz : shapeL (kv.tmod 5) n col cost = thoseL n cost pFull := by rw [shapeL, if_neg c11, if_neg c16, if_neg c21, if_pos c26]
          rw [hz]
          exact ⟨_, [_], _, rfl, .cons .hd .nil, g1, c1, rfl, rfl⟩
        · skip
          refine aSkip ?_
          refine aSeq ?_
          refine aReg ?_
          refine oP rfl (by exact pMv (.inl rfl) rfl) rfl (by decide) ?_
          refine oP rfl (by exact pMv (.inl rfl) rfl) rfl (by decide) ?_
          refine oP rfl (by exact pMv (.inl rfl) rfl) rfl (by decide) ?_
          refine oA rfl ?_
          refine aCall rfl rfl (by decide) rfl rfl .nil (gen_Grid n col cost) ?_
          rintro _ _ ⟨g1, c1, rfl, rfl⟩
          refine oP rfl (by exact pMv (.inr rfl) rfl) rfl (by decide) ?_
          refine oNil ?_
          refine aRet ?_
          have hz : shapeL (kv.tmod 5) n col cost = gridL n col cost := by rw [shapeL, if_neg c11, if_neg c16, if_neg c21, if_neg c26]
          rw [hz]
          exact ⟨_, [_], _, rfl, .cons .hd .nil, g1, c1, rfl, rfl⟩

theorem awake_grid : gridL 4 2 3 = [⟨1, 2, true, 3, 3⟩, ⟨1, 3, true, 3, 3⟩, ⟨2, 4, true, 3, 3⟩, ⟨3, 4, true, 3, 3⟩] := by decide

/- waymarklaw51.awake -/
set_option maxRecDepth 100000 in
set_option maxHeartbeats 400000 in
theorem law51_awake  : Triple Try.prog 6 [] [] (fun r h' => r = .v (.bool true) ∧ h' = []) := by
  refine triple_of Try.func6 rfl (by kernel_rfl) rfl (by simp) ?_
  refine aSeq ?_
  refine aReg ?_
  refine oP rfl (by exact pMv (.inr rfl) rfl) rfl (by decide) ?_
  refine oNil ?_
  refine aSeq ?_
  refine aReg ?_
  refine oA rfl ?_
  refine aCall rfl rfl (by decide) rfl rfl .nil (gen_Grid 4 2 3) ?_
  rintro _ _ ⟨g1, c1, rfl, rfl⟩
  rw [awake_grid]
  refine oWeak (weak_settle (k := 2) rfl .hd rfl) ?_
  refine oP rfl (by exact pMv (.inr rfl) rfl) rfl (by decide) ?_
  refine oNil ?_
  refine aSeq ?_
  refine aReg ?_
  refine oP rfl (by exact pMv (.inl rfl) rfl) rfl (by decide) ?_
  refine oP rfl (by exact pLenS' (n := 4) (pLenS rfl rfl sl_24) rfl) rfl (by decide) ?_
  refine oP rfl (by exact pBin rfl rfl rfl rfl (rfl : _ = Value.bool true)) rfl (by decide) ?_
  refine oP rfl (by exact pMv (.inl rfl) rfl) rfl (by decide) ?_
  refine oGP rfl rfl rfl rfl (by exact pMv (.inl rfl) rfl) rfl (by decide) ?_
  refine oGP rfl rfl rfl rfl (by exact pIdxS rfl rfl rfl es_24 (by decide) rfl) rfl (by decide) ?_
  refine oGR rfl rfl rfl rfl (by first | exact rLdSA rfl rfl ty_46 (Nat.le_of_ble_eq_true rfl) | exact rLdBA rfl rfl (by repeat constructor) ty_46 (Nat.le_of_ble_eq_true rfl)) rfl (by decide) ?_
  refine oGP rfl rfl rfl rfl (by exact pBuild rfl st_46 ze_46 rfl rfl rfl rfl) rfl (by decide) ?_
  refine oGP rfl rfl rfl rfl (by exact pEqA rfl (.inl rfl) rfl rfl eq_46 rfl (rfl : _ = true)) rfl (by decide) ?_
  refine oP rfl (by exact pPick rfl rfl rfl) rfl (by decide) ?_
  refine oP rfl (by exact pMv (.inr rfl) rfl) rfl (by decide) ?_
  refine oNil ?_
  refine aRet ?_
  exact ⟨_, [], _, rfl, .nil, rfl, rfl⟩

theorem tmod5 {k : Int} (h : 0 ≤ k) : 0 ≤ k.tmod 5 ∧ k.tmod 5 < 5 := ⟨Int.tmod_nonneg _ h, Int.tmod_lt_of_pos _ (by decide)⟩
theorem shapeL_col {k n col cost : Int} (h : k = 0 ∨ k = 1 ∨ k = 2 ∨ k = 3) : shapeL k n col cost = shapeL k n (0 : Nat) cost := by
  obtain rfl | rfl | rfl | rfl := h <;> rfl
theorem refS_col {k n col cost : Int} {m : Nat} (h : k = 0 ∨ k = 1 ∨ k = 2 ∨ k = 3) : refS k n col cost m = refS k n (0 : Nat) cost m := by
  have : stepS k n col cost = stepS k n (0 : Nat) cost := by
    funext out a
    obtain rfl | rfl | rfl | rfl := h <;> rfl
  rw [refS, refS, this]
theorem shapes_int {k n col cost : Int} (hk : 0 ≤ k ∧ k < 5) (hn1 : ¬ n < 1) (hn : n ≤ 16) (h1 : ¬ cost < 1) (h2 : ¬ cost > 1073741824) (hc : k = 4 → ¬ col < 1 ∧ ¬ col > n) : ∃ m : Nat, n = m ∧ m ≤ 16 ∧ (k = 4 → 1 ≤ col ∧ col ≤ m) ∧ shapeL k n col cost = refS k m col cost m := by
  obtain ⟨m, rfl⟩ : ∃ m : Nat, n = m := ⟨n.toNat, by omega⟩
  obtain ⟨j, rfl⟩ : ∃ j : Nat, k = j := ⟨k.toNat, by omega⟩
  refine ⟨m, rfl, by omega, fun h => by have := hc h; omega, ?_⟩
  by_cases h4 : j = 4
  · have := hc (by omega)
    obtain ⟨c, rfl⟩ : ∃ c : Nat, col = c := ⟨col.toNat, by omega⟩
    exact shapes (by omega) (by omega) (by omega) (by omega) (by omega) (fun _ => by omega)
  · have hj : (j : Int) = 0 ∨ (j : Int) = 1 ∨ (j : Int) = 2 ∨ (j : Int) = 3 := by omega
    rw [shapeL_col hj, refS_col hj]
    exact shapes (col := 0) (by omega) (by omega) (by omega) (by omega) (by omega) (fun h => absurd h h4)

/- waymarklaw51.GenShapes -/
set_option maxRecDepth 100000 in
set_option maxHeartbeats 2000000 in
theorem law51_GenShapes (kv n x0 x1 : Int) (hkv : 0 ≤ kv) : Triple Try.prog 3 [.v (.int .u8 kv), .int n, .agg [.int x0, .int x1]] [] (fun r h' => r = .v (.bool true) ∧ h' = []) := by
  refine triple_of Try.func3 rfl (by kernel_rfl) rfl (by simp) ?_
  refine aSeq ?_
  refine aReg ?_
  refine oQ rfl ?_
  refine qBox rfl rfl (by decide) rfl rfl (fun b5 => ?_)
  refine oP rfl (by exact pMv (.inr rfl) rfl) rfl (by decide) ?_
  refine oNil ?_
  refine aSeq ?_
  refine aSeq ?_
  refine aReg ?_
  refine oP rfl (by exact pMv (.inl rfl) rfl) rfl (by decide) ?_
  refine oP rfl (by exact pBin rfl rfl rfl rfl rfl) rfl (by decide) ?_
  refine oP rfl (by exact pMv (.inl rfl) rfl) rfl (by decide) ?_
  refine oSplitDec 10 rfl (fun c10 => ?_) (fun c10 => ?_)
  · skip
    refine oGP rfl rfl rfl rfl (by exact pMv (.inl rfl) rfl) rfl (by decide) ?_
    refine oGP rfl rfl rfl rfl (by exact pBin rfl rfl rfl rfl rfl) rfl (by decide) ?_
    refine oP rfl (by exact pPick rfl rfl rfl) rfl (by decide) ?_
    refine oNil ?_
    refine aCondDec rfl (fun c13 => ?_) (fun c13 => ?_)
    · skip
      refine aSeq ?_
      refine aReg ?_
      refine oQ rfl ?_
      refine qCallV rfl rfl (by decide) rfl rfl (lents_refl _) law51_awake ?_
      refine oP rfl (by exact pMv (.inr rfl) rfl) rfl (by decide) ?_
      refine oNil ?_
      refine aRet ?_
      refine ⟨_, [], _, rfl, .nil, rfl, rfl⟩
    · skip
      refine aSkip ?_
      refine aSeq ?_
      refine aReg ?_
      refine oP rfl (by exact pMv (.inl rfl) rfl) rfl (by decide) ?_
      refine oP rfl (by exact pMv (.inl rfl) rfl) rfl (by decide) ?_
      refine oP rfl (by exact pIdxA rfl rfl rfl ar_22 (by omega) (by omega)) rfl (by decide) ?_
      refine oR rfl (by first | exact rLdS1 rfl rfl ty_3 rfl | exact rLdB1 rfl rfl (by repeat constructor) ty_3 rfl) rfl (by decide) ?_
      refine oP rfl (by exact pIdxA rfl rfl rfl ar_22 (by omega) (by omega)) rfl (by decide) ?_
      refine oR rfl (by first | exact rLdS1 rfl rfl ty_3 rfl | exact rLdB1 rfl rfl (by repeat constructor) ty_3 rfl) rfl (by decide) ?_
      refine oA rfl ?_
      refine aCall rfl rfl (by decide) rfl rfl .nil (law51_shape kv n x0 x1) ?_
      rintro _ _ ⟨g1, c1, rfl, rfl⟩
      refine oWeak (weak_settle (k := 21) rfl .hd (by simp)) ?_
      refine oP rfl (by exact pMv (.inr rfl) rfl) rfl (by decide) ?_
      refine oNil ?_
      refine aSeq ?_
      refine aSeq ?_
      have hk5 := tmod5 hkv
      refine aReg ?_
      refine oP rfl (by exact pMv (.inl rfl) rfl) rfl (by decide) ?_
      refine oP rfl (by exact pBin rfl rfl rfl rfl rfl) rfl (by decide) ?_
      refine oP rfl (by exact pMv (.inl rfl) rfl) rfl (by decide) ?_
      refine oSplitDec 24 rfl (fun c24 => ?_) (fun c24 => ?_)
      · skip
        refine oGF rfl rfl rfl rfl rfl (by decide) ?_
        refine oGF rfl rfl rfl rfl rfl (by decide) ?_
        refine oP rfl (by exact pPick rfl rfl rfl) rfl (by decide) ?_
        refine oP rfl (by exact pMv (.inl rfl) rfl) rfl (by decide) ?_
        refine oGF rfl rfl rfl rfl rfl (by decide) ?_
        refine oGF rfl rfl rfl rfl rfl (by decide) ?_
        refine oGF rfl rfl rfl rfl rfl (by decide) ?_
        refine oP rfl (by exact pPick rfl rfl rfl) rfl (by decide) ?_
        refine oP rfl (by exact pMv (.inl rfl) rfl) rfl (by decide) ?_
        refine oGF rfl rfl rfl rfl rfl (by decide) ?_
        refine oGF rfl rfl rfl rfl rfl (by decide) ?_
        refine oGF rfl rfl rfl rfl rfl (by decide) ?_
        refine oP rfl (by exact pPick rfl rfl rfl) rfl (by decide) ?_
        refine oP rfl (by exact pMv (.inl rfl) rfl) rfl (by decide) ?_
        refine oGF rfl rfl rfl rfl rfl (by decide) ?_
        refine oGF rfl rfl rfl rfl rfl (by decide) ?_
        refine oGF rfl rfl rfl rfl rfl (by decide) ?_
        refine oGF rfl rfl rfl rfl rfl (by decide) ?_
        refine oGF rfl rfl rfl rfl rfl (by decide) ?_
        refine oGF rfl rfl rfl rfl rfl (by decide) ?_
        refine oGF rfl rfl rfl rfl rfl (by decide) ?_
        refine oGF rfl rfl rfl rfl rfl (by decide) ?_
        refine oGF rfl rfl rfl rfl rfl (by decide) ?_
        refine oGF rfl rfl rfl rfl rfl (by decide) ?_
        refine oGF rfl rfl rfl rfl rfl (by decide) ?_
        refine oGF rfl rfl rfl rfl rfl (by decide) ?_
        refine oGF rfl rfl rfl rfl rfl (by decide) ?_
        refine oGF rfl rfl rfl rfl rfl (by decide) ?_
        refine oP rfl (by exact pPick rfl rfl rfl) rfl (by decide) ?_
        refine oNil ?_
        refine aCondT rfl ?_
        refine aSeq ?_
        refine aReg ?_
        refine oP rfl (by exact pMv (.inl rfl) rfl) rfl (by decide) ?_
        refine oP rfl (by exact pLenS' (n := 0) (pLenS rfl rfl sl_24) (by rw [shape_none (by omega)]; rfl)) rfl (by decide) ?_
        refine oP rfl (by exact pBin rfl rfl rfl rfl (rfl : _ = Value.bool true)) rfl (by decide) ?_
        refine oP rfl (by exact pMv (.inl rfl) rfl) rfl (by decide) ?_
        refine oGT rfl rfl rfl rfl ?_
        refine (qCallV rfl rfl (by decide) rfl rfl (lents_refl _) law51_awake ?_).op
        refine oP rfl (by exact pPick rfl rfl rfl) rfl (by decide) ?_
        refine oP rfl (by exact pMv (.inr rfl) rfl) rfl (by decide) ?_
        refine oNil ?_
        refine aRet ?_
        refine ⟨_, [], _, rfl, .nil, rfl, rfl⟩
      · skip
        refine oGP rfl rfl rfl rfl (by exact pMv (.inl rfl) rfl) rfl (by decide) ?_
        refine oGP rfl rfl rfl rfl (by exact pBin rfl rfl rfl rfl rfl) rfl (by decide) ?_
        refine oP rfl (by exact pPick rfl rfl rfl) rfl (by decide) ?_
        refine oP rfl (by exact pMv (.inl rfl) rfl) rfl (by decide) ?_
        refine oSplitDec 28 rfl (fun c28 => ?_) (fun c28 => ?_)
        · skip
          refine oGF rfl rfl rfl rfl rfl (by decide) ?_
          refine oGF rfl rfl rfl rfl rfl (by decide) ?_
          refine oGF rfl rfl rfl rfl rfl (by decide) ?_
          refine oP rfl (by exact pPick rfl rfl rfl) rfl (by decide) ?_
          refine oP rfl (by exact pMv (.inl rfl) rfl) rfl (by decide) ?_
          refine oGF rfl rfl rfl rfl rfl (by decide) ?_
          refine oGF rfl rfl rfl rfl rfl (by decide) ?_
          refine oGF rfl rfl rfl rfl rfl (by decide) ?_
          refine oP rfl (by exact pPick rfl rfl rfl) rfl (by decide) ?_
          refine oP rfl (by exact pMv (.inl rfl) rfl) rfl (by decide) ?_
          refine oGF rfl rfl rfl rfl rfl (by decide) ?_
          refine oGF rfl rfl rfl rfl rfl (by decide) ?_
          refine oGF rfl rfl rfl rfl rfl (by decide) ?_
          refine oGF rfl rfl rfl rfl rfl (by decide) ?_
          refine oGF rfl rfl rfl rfl rfl (by decide) ?_
          refine oGF rfl rfl rfl rfl rfl (by decide) ?_
          refine oGF rfl rfl rfl rfl rfl (by decide) ?_
          refine oGF rfl rfl rfl rfl rfl (by decide) ?_
          refine oGF rfl rfl rfl rfl rfl (by decide) ?_
          refine oGF rfl rfl rfl rfl rfl (by decide) ?_
          refine oGF rfl rfl rfl rfl rfl (by decide) ?_
          refine oGF rfl rfl rfl rfl rfl (by decide) ?_
          refine oGF rfl rfl rfl rfl rfl (by decide) ?_
          refine oGF rfl rfl rfl rfl rfl (by decide) ?_
          refine oP rfl (by exact pPick rfl rfl rfl) rfl (by decide) ?_
          refine oNil ?_
          refine aCondT rfl ?_
          refine aSeq ?_
          refine aReg ?_
          refine oP rfl (by exact pMv (.inl rfl) rfl) rfl (by decide) ?_
          refine oP rfl (by exact pLenS' (n := 0) (pLenS rfl rfl sl_24) (by rw [shape_none (by omega)]; rfl)) rfl (by decide) ?_
          refine oP rfl (by exact pBin rfl rfl rfl rfl (rfl : _ = Value.bool true)) rfl (by decide) ?_
          refine oP rfl (by exact pMv (.inl rfl) rfl) rfl (by decide) ?_
          refine oGT rfl rfl rfl rfl ?_
          refine (qCallV rfl rfl (by decide) rfl rfl (lents_refl _) law51_awake ?_).op
          refine oP rfl (by exact pPick rfl rfl rfl) rfl (by decide) ?_
          refine oP rfl (by exact pMv (.inr rfl) rfl) rfl (by decide) ?_
          refine oNil ?_
          refine aRet ?_
          refine ⟨_, [], _, rfl, .nil, rfl, rfl⟩
        · skip
          refine oGP rfl rfl rfl rfl (by exact pIdxA rfl rfl rfl ar_22 (by omega) (by omega)) rfl (by decide) ?_
          refine oGR rfl rfl rfl rfl (by first | exact rLdS1 rfl rfl ty_3 rfl | exact rLdB1 rfl rfl (by repeat constructor) ty_3 rfl) rfl (by decide) ?_
          refine oGP rfl rfl rfl rfl (by exact pBin rfl rfl rfl rfl rfl) rfl (by decide) ?_
          refine oP rfl (by exact pPick rfl rfl rfl) rfl (by decide) ?_
          refine oP rfl (by exact pMv (.inl rfl) rfl) rfl (by decide) ?_
          refine oSplitDec 33 rfl (fun c33 => ?_) (fun c33 => ?_)
          · skip
            refine oGF rfl rfl rfl rfl rfl (by decide) ?_
            refine oGF rfl rfl rfl rfl rfl (by decide) ?_
            refine oGF rfl rfl rfl rfl rfl (by decide) ?_
            refine oP rfl (by exact pPick rfl rfl rfl) rfl (by decide) ?_
            refine oP rfl (by exact pMv (.inl rfl) rfl) rfl (by decide) ?_
            refine oGF rfl rfl rfl rfl rfl (by decide) ?_
            refine oGF rfl rfl rfl rfl rfl (by decide) ?_
            refine oGF rfl rfl rfl rfl rfl (by decide) ?_
            refine oGF rfl rfl rfl rfl rfl (by decide) ?_
            refine oGF rfl rfl rfl rfl rfl (by decide) ?_
            refine oGF rfl rfl rfl rfl rfl (by decide) ?_
            refine oGF rfl rfl rfl rfl rfl (by decide) ?_
            refine oGF rfl rfl rfl rfl rfl (by decide) ?_
            refine oGF rfl rfl rfl rfl rfl (by decide) ?_
            refine oGF rfl rfl rfl rfl rfl (by decide) ?_
            refine oGF rfl rfl rfl rfl rfl (by decide) ?_
            refine oGF rfl rfl rfl rfl rfl (by decide) ?_
            refine oGF rfl rfl rfl rfl rfl (by decide) ?_
            refine oGF rfl rfl rfl rfl rfl (by decide) ?_
            refine oP rfl (by exact pPick rfl rfl rfl) rfl (by decide) ?_
            refine oNil ?_
            refine aCondT rfl ?_
            refine aSeq ?_
            refine aReg ?_
            refine oP rfl (by exact pMv (.inl rfl) rfl) rfl (by decide) ?_
            refine oP rfl (by exact pLenS' (n := 0) (pLenS rfl rfl sl_24) (by rw [shape_none (by omega)]; rfl)) rfl (by decide) ?_
            refine oP rfl (by exact pBin rfl rfl rfl rfl (rfl : _ = Value.bool true)) rfl (by decide) ?_
            refine oP rfl (by exact pMv (.inl rfl) rfl) rfl (by decide) ?_
            refine oGT rfl rfl rfl rfl ?_
            refine (qCallV rfl rfl (by decide) rfl rfl (lents_refl _) law51_awake ?_).op
            refine oP rfl (by exact pPick rfl rfl rfl) rfl (by decide) ?_
            refine oP rfl (by exact pMv (.inr rfl) rfl) rfl (by decide) ?_
            refine oNil ?_
            refine aRet ?_
            refine ⟨_, [], _, rfl, .nil, rfl, rfl⟩
          · skip
            refine oGP rfl rfl rfl rfl (by exact pIdxA rfl rfl rfl ar_22 (by omega) (by omega)) rfl (by decide) ?_
            refine oGR rfl rfl rfl rfl (by first | exact rLdS1 rfl rfl ty_3 rfl | exact rLdB1 rfl rfl (by repeat constructor) ty_3 rfl) rfl (by decide) ?_
            refine oGP rfl rfl rfl rfl (by exact pBin rfl rfl rfl rfl rfl) rfl (by decide) ?_
            refine oP rfl (by exact pPick rfl rfl rfl) rfl (by decide) ?_
            refine oP rfl (by exact pMv (.inl rfl) rfl) rfl (by decide) ?_
            refine oSplitDec 38 rfl (fun c38 => ?_) (fun c38 => ?_)
            · skip
              refine oGF rfl rfl rfl rfl rfl (by decide) ?_
              refine oGF rfl rfl rfl rfl rfl (by decide) ?_
              refine oGF rfl rfl rfl rfl rfl (by decide) ?_
              refine oGF rfl rfl rfl rfl rfl (by decide) ?_
              refine oGF rfl rfl rfl rfl rfl (by decide) ?_
              refine oGF rfl rfl rfl rfl rfl (by decide) ?_
              refine oGF rfl rfl rfl rfl rfl (by decide) ?_
              refine oGF rfl rfl rfl rfl rfl (by decide) ?_
              refine oGF rfl rfl rfl rfl rfl (by decide) ?_
              refine oGF rfl rfl rfl rfl rfl (by decide) ?_
              refine oGF rfl rfl rfl rfl rfl (by decide) ?_
              refine oGF rfl rfl rfl rfl rfl (by decide) ?_
              refine oGF rfl rfl rfl rfl rfl (by decide) ?_
              refine oGF rfl rfl rfl rfl rfl (by decide) ?_
              refine oP rfl (by exact pPick rfl rfl rfl) rfl (by decide) ?_
              refine oNil ?_
              refine aCondT rfl ?_
              refine aSeq ?_
              refine aReg ?_
              refine oP rfl (by exact pMv (.inl rfl) rfl) rfl (by decide) ?_
              refine oP rfl (by exact pLenS' (n := 0) (pLenS rfl rfl sl_24) (by rw [shape_none (by omega)]; rfl)) rfl (by decide) ?_
              refine oP rfl (by exact pBin rfl rfl rfl rfl (rfl : _ = Value.bool true)) rfl (by decide) ?_
              refine oP rfl (by exact pMv (.inl rfl) rfl) rfl (by decide) ?_
              refine oGT rfl rfl rfl rfl ?_
              refine (qCallV rfl rfl (by decide) rfl rfl (lents_refl _) law51_awake ?_).op
              refine oP rfl (by exact pPick rfl rfl rfl) rfl (by decide) ?_
              refine oP rfl (by exact pMv (.inr rfl) rfl) rfl (by decide) ?_
              refine oNil ?_
              refine aRet ?_
              refine ⟨_, [], _, rfl, .nil, rfl, rfl⟩
            · skip
              refine oGP rfl rfl rfl rfl (by exact pMv (.inl rfl) rfl) rfl (by decide) ?_
              refine oGP rfl rfl rfl rfl (by exact pRem rfl rfl rfl (by first | decide | omega)) rfl (by decide) ?_
              refine oGP rfl rfl rfl rfl (by exact pBin rfl rfl rfl rfl rfl) rfl (by decide) ?_
              refine oGP rfl rfl rfl rfl (by exact pMv (.inl rfl) rfl) rfl (by decide) ?_
              refine oSplitEq 42 rfl (fun c42 => ?_) (fun c42 => ?_)
              · skip
                refine oGP rfl rfl rfl rfl (by exact pIdxA rfl rfl rfl ar_22 (by omega) (by omega)) rfl (by decide) ?_
                refine oGR rfl rfl rfl rfl (by first | exact rLdS1 rfl rfl ty_3 rfl | exact rLdB1 rfl rfl (by repeat constructor) ty_3 rfl) rfl (by decide) ?_
                refine oGP rfl rfl rfl rfl (by exact pBin rfl rfl rfl rfl rfl) rfl (by decide) ?_
                refine oGP rfl rfl rfl rfl (by exact pMv (.inl rfl) rfl) rfl (by decide) ?_
                refine oSplitDec 46 rfl (fun c46 => ?_) (fun c46 => ?_)
                · skip
                  refine oGF rfl rfl rfl rfl rfl (by decide) ?_
                  refine oGF rfl rfl rfl rfl rfl (by decide) ?_
                  refine oGF rfl rfl rfl rfl rfl (by decide) ?_
                  refine oGF rfl rfl rfl rfl rfl (by decide) ?_
                  refine oGP rfl rfl rfl rfl (by exact pPick rfl rfl rfl) rfl (by decide) ?_
                  refine oGP rfl rfl rfl rfl (by exact pPick rfl rfl rfl) rfl (by decide) ?_
                  refine oP rfl (by exact pPick rfl rfl rfl) rfl (by decide) ?_
                  refine oNil ?_
                  refine aCondT rfl ?_
                  refine aSeq ?_
                  refine aReg ?_
                  refine oP rfl (by exact pMv (.inl rfl) rfl) rfl (by decide) ?_
                  refine oP rfl (by exact pLenS' (n := 0) (pLenS rfl rfl sl_24) (by rw [shape_none (by omega)]; rfl)) rfl (by decide) ?_
                  refine oP rfl (by exact pBin rfl rfl rfl rfl (rfl : _ = Value.bool true)) rfl (by decide) ?_
                  refine oP rfl (by exact pMv (.inl rfl) rfl) rfl (by decide) ?_
                  refine oGT rfl rfl rfl rfl ?_
                  refine (qCallV rfl rfl (by decide) rfl rfl (lents_refl _) law51_awake ?_).op
                  refine oP rfl (by exact pPick rfl rfl rfl) rfl (by decide) ?_
                  refine oP rfl (by exact pMv (.inr rfl) rfl) rfl (by decide) ?_
                  refine oNil ?_
                  refine aRet ?_
                  refine ⟨_, [], _, rfl, .nil, rfl, rfl⟩
                · skip
                  refine oGP rfl rfl rfl rfl (by exact pIdxA rfl rfl rfl ar_22 (by omega) (by omega)) rfl (by decide) ?_
                  refine oGR rfl rfl rfl rfl (by first | exact rLdS1 rfl rfl ty_3 rfl | exact rLdB1 rfl rfl (by repeat constructor) ty_3 rfl) rfl (by decide) ?_
                  refine oGP rfl rfl rfl rfl (by exact pMv (.inl rfl) rfl) rfl (by decide) ?_
                  refine oGP rfl rfl rfl rfl (by exact pBin rfl rfl rfl rfl rfl) rfl (by decide) ?_
                  refine oGP rfl rfl rfl rfl (by exact pPick rfl rfl rfl) rfl (by decide) ?_
                  refine oGP rfl rfl rfl rfl (by exact pPick rfl rfl rfl) rfl (by decide) ?_
                  refine oP rfl (by exact pPick rfl rfl rfl) rfl (by decide) ?_
                  refine oNil ?_
                  refine aCondDec rfl (fun c53 => ?_) (fun c53 => ?_)
                  · skip
                    refine aSeq ?_
                    refine aReg ?_
                    refine oP rfl (by exact pMv (.inl rfl) rfl) rfl (by decide) ?_
                    refine oP rfl (by exact pLenS' (n := 0) (pLenS rfl rfl sl_24) (by rw [shape_none (by omega)]; rfl)) rfl (by decide) ?_
                    refine oP rfl (by exact pBin rfl rfl rfl rfl (rfl : _ = Value.bool true)) rfl (by decide) ?_
                    refine oP rfl (by exact pMv (.inl rfl) rfl) rfl (by decide) ?_
                    refine oGT rfl rfl rfl rfl ?_
                    refine (qCallV rfl rfl (by decide) rfl rfl (lents_refl _) law51_awake ?_).op
                    refine oP rfl (by exact pPick rfl rfl rfl) rfl (by decide) ?_
                    refine oP rfl (by exact pMv (.inr rfl) rfl) rfl (by decide) ?_
                    refine oNil ?_
                    refine aRet ?_
                    refine ⟨_, [], _, rfl, .nil, rfl, rfl⟩
                  · skip
                    refine aSkip ?_
                    refine aSeq ?_
                    obtain ⟨m, rfl, hm, hmc, hms⟩ := shapes_int (k := kv.tmod 5) (n := n) (col := x0) (cost := x1) hk5 (by omega) (by omega) (by omega) (by omega) (fun h => by omega)
                    refine aReg ?_
                    refine oP rfl (by exact pMv (.inl rfl) rfl) rfl (by decide) ?_
                    refine oP rfl (by exact pMv (.inl rfl) rfl) rfl (by decide) ?_
                    refine oP rfl (by exact pRem rfl rfl rfl (by first | decide | omega)) rfl (by decide) ?_
                    refine oP rfl (by exact pConv rfl rfl ik_5 ik_3 (wrap_i64 (by omega) (by omega))) rfl (by decide) ?_
                    refine oP rfl (by exact pMv (.inl rfl) rfl) rfl (by decide) ?_
                    refine oP rfl (by exact pIdxA rfl rfl rfl ar_22 (by omega) (by omega)) rfl (by decide) ?_
                    refine oR rfl (by first | exact rLdS1 rfl rfl ty_3 rfl | exact rLdB1 rfl rfl (by repeat constructor) ty_3 rfl) rfl (by decide) ?_
                    refine oP rfl (by exact pIdxA rfl rfl rfl ar_22 (by omega) (by omega)) rfl (by decide) ?_
                    refine oR rfl (by first | exact rLdS1 rfl rfl ty_3 rfl | exact rLdB1 rfl rfl (by repeat constructor) ty_3 rfl) rfl (by decide) ?_
                    refine oQ rfl ?_
                    refine qCall0 rfl rfl (by decide) rfl rfl (ref51_Shape (kv.tmod 5) m x0 x1 hm hmc) ?_
                    rintro _ _ ⟨rfl, rfl⟩
                    refine oQ rfl ?_
                    refine qCallV rfl rfl (by decide) rfl rfl (lents_refl _) (ref50_Same (shapeL (kv.tmod 5) m x0 x1) (refS (kv.tmod 5) m x0 x1 m) (by have := shapeL_len (kv.tmod 5) m x0 x1; omega) (by rw [← hms]; have := shapeL_len (kv.tmod 5) m x0 x1; omega)) ?_
                    rw [show decide (shapeL (kv.tmod 5) m x0 x1 = refS (kv.tmod 5) m x0 x1 m) = true by rw [hms]; simp]
                    refine oP rfl (by exact pMv (.inl rfl) rfl) rfl (by decide) ?_
                    refine oGT rfl rfl rfl rfl ?_
                    refine (qCallV rfl rfl (by decide) rfl rfl (lents_refl _) law51_awake ?_).op
                    refine oP rfl (by exact pPick rfl rfl rfl) rfl (by decide) ?_
                    refine oP rfl (by exact pMv (.inr rfl) rfl) rfl (by decide) ?_
                    refine oNil ?_
                    refine aRet ?_
                    refine ⟨_, [], _, rfl, .nil, rfl, rfl⟩
              · skip
                refine oGF rfl rfl rfl rfl rfl (by decide) ?_
                refine oGF rfl rfl rfl rfl rfl (by decide) ?_
                refine oGF rfl rfl rfl rfl rfl (by decide) ?_
                refine oGF rfl rfl rfl rfl rfl (by decide) ?_
                refine oGF rfl rfl rfl rfl rfl (by decide) ?_
                refine oGF rfl rfl rfl rfl rfl (by decide) ?_
                refine oGF rfl rfl rfl rfl rfl (by decide) ?_
                refine oGF rfl rfl rfl rfl rfl (by decide) ?_
                refine oGF rfl rfl rfl rfl rfl (by decide) ?_
                refine oGP rfl rfl rfl rfl (by exact pPick rfl rfl rfl) rfl (by decide) ?_
                refine oP rfl (by exact pPick rfl rfl rfl) rfl (by decide) ?_
                refine oNil ?_
                refine aCondF rfl ?_
                refine aSkip ?_
                refine aSeq ?_
                obtain ⟨m, rfl, hm, hmc, hms⟩ := shapes_int (k := kv.tmod 5) (n := n) (col := x0) (cost := x1) hk5 (by omega) (by omega) (by omega) (by omega) (fun h => by omega)
                refine aReg ?_
                refine oP rfl (by exact pMv (.inl rfl) rfl) rfl (by decide) ?_
                refine oP rfl (by exact pMv (.inl rfl) rfl) rfl (by decide) ?_
                refine oP rfl (by exact pRem rfl rfl rfl (by first | decide | omega)) rfl (by decide) ?_
                refine oP rfl (by exact pConv rfl rfl ik_5 ik_3 (wrap_i64 (by omega) (by omega))) rfl (by decide) ?_
                refine oP rfl (by exact pMv (.inl rfl) rfl) rfl (by decide) ?_
                refine oP rfl (by exact pIdxA rfl rfl rfl ar_22 (by omega) (by omega)) rfl (by decide) ?_
                refine oR rfl (by first | exact rLdS1 rfl rfl ty_3 rfl | exact rLdB1 rfl rfl (by repeat constructor) ty_3 rfl) rfl (by decide) ?_
                refine oP rfl (by exact pIdxA rfl rfl rfl ar_22 (by omega) (by omega)) rfl (by decide) ?_
                refine oR rfl (by first | exact rLdS1 rfl rfl ty_3 rfl | exact rLdB1 rfl rfl (by repeat constructor) ty_3 rfl) rfl (by decide) ?_
                refine oQ rfl ?_
                refine qCall0 rfl rfl (by decide) rfl rfl (ref51_Shape (kv.tmod 5) m x0 x1 hm hmc) ?_
                rintro _ _ ⟨rfl, rfl⟩
                refine oQ rfl ?_
                refine qCallV rfl rfl (by decide) rfl rfl (lents_refl _) (ref50_Same (shapeL (kv.tmod 5) m x0 x1) (refS (kv.tmod 5) m x0 x1 m) (by have := shapeL_len (kv.tmod 5) m x0 x1; omega) (by rw [← hms]; have := shapeL_len (kv.tmod 5) m x0 x1; omega)) ?_
                rw [show decide (shapeL (kv.tmod 5) m x0 x1 = refS (kv.tmod 5) m x0 x1 m) = true by rw [hms]; simp]
                refine oP rfl (by exact pMv (.inl rfl) rfl) rfl (by decide) ?_
                refine oGT rfl rfl rfl rfl ?_
                refine (qCallV rfl rfl (by decide) rfl rfl (lents_refl _) law51_awake ?_).op
                refine oP rfl (by exact pPick rfl rfl rfl) rfl (by decide) ?_
                refine oP rfl (by exact pMv (.inr rfl) rfl) rfl (by decide) ?_
                refine oNil ?_
                refine aRet ?_
                refine ⟨_, [], _, rfl, .nil, rfl, rfl⟩
  · skip
    refine oGF rfl rfl rfl rfl rfl (by decide) ?_
    refine oGF rfl rfl rfl rfl rfl (by decide) ?_
    refine oP rfl (by exact pPick rfl rfl rfl) rfl (by decide) ?_
    refine oNil ?_
    refine aCondF rfl ?_
    refine aSkip ?_
    refine aSeq ?_
    refine aReg ?_
    refine oP rfl (by exact pMv (.inl rfl) rfl) rfl (by decide) ?_
    refine oP rfl (by exact pMv (.inl rfl) rfl) rfl (by decide) ?_
    refine oP rfl (by exact pIdxA rfl rfl rfl ar_22 (by omega) (by omega)) rfl (by decide) ?_
    refine oR rfl (by first | exact rLdS1 rfl rfl ty_3 rfl | exact rLdB1 rfl rfl (by repeat constructor) ty_3 rfl) rfl (by decide) ?_
    refine oP rfl (by exact pIdxA rfl rfl rfl ar_22 (by omega) (by omega)) rfl (by decide) ?_
    refine oR rfl (by first | exact rLdS1 rfl rfl ty_3 rfl | exact rLdB1 rfl rfl (by repeat constructor) ty_3 rfl) rfl (by decide) ?_
    refine oA rfl ?_
    refine aCall rfl rfl (by decide) rfl rfl .nil (law51_shape kv n x0 x1) ?_
    rintro _ _ ⟨g1, c1, rfl, rfl⟩
    refine oWeak (weak_settle (k := 21) rfl .hd (by simp)) ?_
    refine oP rfl (by exact pMv (.inr rfl) rfl) rfl (by decide) ?_
    refine oNil ?_
    refine aSeq ?_
    refine aSeq ?_
    have hk5 := tmod5 hkv
    refine aReg ?_
    refine oP rfl (by exact pMv (.inl rfl) rfl) rfl (by decide) ?_
    refine oP rfl (by exact pBin rfl rfl rfl rfl rfl) rfl (by decide) ?_
    refine oP rfl (by exact pMv (.inl rfl) rfl) rfl (by decide) ?_
    refine oSplitDec 24 rfl (fun c24 => ?_) (fun c24 => ?_)
    · skip
      refine oGF rfl rfl rfl rfl rfl (by decide) ?_
      refine oGF rfl rfl rfl rfl rfl (by decide) ?_
      refine oP rfl (by exact pPick rfl rfl rfl) rfl (by decide) ?_
      refine oP rfl (by exact pMv (.inl rfl) rfl) rfl (by decide) ?_
      refine oGF rfl rfl rfl rfl rfl (by decide) ?_
      refine oGF rfl rfl rfl rfl rfl (by decide) ?_
      refine oGF rfl rfl rfl rfl rfl (by decide) ?_
      refine oP rfl (by exact pPick rfl rfl rfl) rfl (by decide) ?_
      refine oP rfl (by exact pMv (.inl rfl) rfl) rfl (by decide) ?_
      refine oGF rfl rfl rfl rfl rfl (by decide) ?_
      refine oGF rfl rfl rfl rfl rfl (by decide) ?_
      refine oGF rfl rfl rfl rfl rfl (by decide) ?_
      refine oP rfl (by exact pPick rfl rfl rfl) rfl (by decide) ?_
      refine oP rfl (by exact pMv (.inl rfl) rfl) rfl (by decide) ?_
      refine oGF rfl rfl rfl rfl rfl (by decide) ?_
      refine oGF rfl rfl rfl rfl rfl (by decide) ?_
      refine oGF rfl rfl rfl rfl rfl (by decide) ?_
      refine oGF rfl rfl rfl rfl rfl (by decide) ?_
      refine oGF rfl rfl rfl rfl rfl (by decide) ?_
      refine oGF rfl rfl rfl rfl rfl (by decide) ?_
      refine oGF rfl rfl rfl rfl rfl (by decide) ?_
      refine oGF rfl rfl rfl rfl rfl (by decide) ?_
      refine oGF rfl rfl rfl rfl rfl (by decide) ?_
      refine oGF rfl rfl rfl rfl rfl (by decide) ?_
      refine oGF rfl rfl rfl rfl rfl (by decide) ?_
      refine oGF rfl rfl rfl rfl rfl (by decide) ?_
      refine oGF rfl rfl rfl rfl rfl (by decide) ?_
      refine oGF rfl rfl rfl rfl rfl (by decide) ?_
      refine oP rfl (by exact pPick rfl rfl rfl) rfl (by decide) ?_
      refine oNil ?_
      refine aCondT rfl ?_
      refine aSeq ?_
      refine aReg ?_
      refine oP rfl (by exact pMv (.inl rfl) rfl) rfl (by decide) ?_
      refine oP rfl (by exact pLenS' (n := 0) (pLenS rfl rfl sl_24) (by rw [shape_none (by omega)]; rfl)) rfl (by decide) ?_
      refine oP rfl (by exact pBin rfl rfl rfl rfl (rfl : _ = Value.bool true)) rfl (by decide) ?_
      refine oP rfl (by exact pMv (.inl rfl) rfl) rfl (by decide) ?_
      refine oGT rfl rfl rfl rfl ?_
      refine (qCallV rfl rfl (by decide) rfl rfl (lents_refl _) law51_awake ?_).op
      refine oP rfl (by exact pPick rfl rfl rfl) rfl (by decide) ?_
      refine oP rfl (by exact pMv (.inr rfl) rfl) rfl (by decide) ?_
      refine oNil ?_
      refine aRet ?_
      refine ⟨_, [], _, rfl, .nil, rfl, rfl⟩
    · skip
      refine oGP rfl rfl rfl rfl (by exact pMv (.inl rfl) rfl) rfl (by decide) ?_
      refine oGP rfl rfl rfl rfl (by exact pBin rfl rfl rfl rfl rfl) rfl (by decide) ?_
      refine oP rfl (by exact pPick rfl rfl rfl) rfl (by decide) ?_
      refine oP rfl (by exact pMv (.inl rfl) rfl) rfl (by decide) ?_
      refine oSplitDec 28 rfl (fun c28 => ?_) (fun c28 => ?_)
      · skip
        refine oGF rfl rfl rfl rfl rfl (by decide) ?_
        refine oGF rfl rfl rfl rfl rfl (by decide) ?_
        refine oGF rfl rfl rfl rfl rfl (by decide) ?_
        refine oP rfl (by exact pPick rfl rfl rfl) rfl (by decide) ?_
        refine oP rfl (by exact pMv (.inl rfl) rfl) rfl (by decide) ?_
        refine oGF rfl rfl rfl rfl rfl (by decide) ?_
        refine oGF rfl rfl rfl rfl rfl (by decide) ?_
        refine oGF rfl rfl rfl rfl rfl (by decide) ?_
        refine oP rfl (by exact pPick rfl rfl rfl) rfl (by decide) ?_
        refine oP rfl (by exact pMv (.inl rfl) rfl) rfl (by decide) ?_
        refine oGF rfl rfl rfl rfl rfl (by decide) ?_
        refine oGF rfl rfl rfl rfl rfl (by decide) ?_
        refine oGF rfl rfl rfl rfl rfl (by decide) ?_
        refine oGF rfl rfl rfl rfl rfl (by decide) ?_
        refine oGF rfl rfl rfl rfl rfl (by decide) ?_
        refine oGF rfl rfl rfl rfl rfl (by decide) ?_
        refine oGF rfl rfl rfl rfl rfl (by decide) ?_
        refine oGF rfl rfl rfl rfl rfl (by decide) ?_
        refine oGF rfl rfl rfl rfl rfl (by decide) ?_
        refine oGF rfl rfl rfl rfl rfl (by decide) ?_
        refine oGF rfl rfl rfl rfl rfl (by decide) ?_
        refine oGF rfl rfl rfl rfl rfl (by decide) ?_
        refine oGF rfl rfl rfl rfl rfl (by decide) ?_
        refine oGF rfl rfl rfl rfl rfl (by decide) ?_
        refine oP rfl (by exact pPick rfl rfl rfl) rfl (by decide) ?_
        refine oNil ?_
        refine aCondT rfl ?_
        refine aSeq ?_
        refine aReg ?_
        refine oP rfl (by exact pMv (.inl rfl) rfl) rfl (by decide) ?_
        refine oP rfl (by exact pLenS' (n := 0) (pLenS rfl rfl sl_24) (by rw [shape_none (by omega)]; rfl)) rfl (by decide) ?_
        refine oP rfl (by exact pBin rfl rfl rfl rfl (rfl : _ = Value.bool true)) rfl (by decide) ?_
        refine oP rfl (by exact pMv (.inl rfl) rfl) rfl (by decide) ?_
        refine oGT rfl rfl rfl rfl ?_
        refine (qCallV rfl rfl (by decide) rfl rfl (lents_refl _) law51_awake ?_).op
        refine oP rfl (by exact pPick rfl rfl rfl) rfl (by decide) ?_
        refine oP rfl (by exact pMv (.inr rfl) rfl) rfl (by decide) ?_
        refine oNil ?_
        refine aRet ?_
        refine ⟨_, [], _, rfl, .nil, rfl, rfl⟩
      · skip
        refine oGP rfl rfl rfl rfl (by exact pIdxA rfl rfl rfl ar_22 (by omega) (by omega)) rfl (by decide) ?_
        refine oGR rfl rfl rfl rfl (by first | exact rLdS1 rfl rfl ty_3 rfl | exact rLdB1 rfl rfl (by repeat constructor) ty_3 rfl) rfl (by decide) ?_
        refine oGP rfl rfl rfl rfl (by exact pBin rfl rfl rfl rfl rfl) rfl (by decide) ?_
        refine oP rfl (by exact pPick rfl rfl rfl) rfl (by decide) ?_
        refine oP rfl (by exact pMv (.inl rfl) rfl) rfl (by decide) ?_
        refine oSplitDec 33 rfl (fun c33 => ?_) (fun c33 => ?_)
        · skip
          refine oGF rfl rfl rfl rfl rfl (by decide) ?_
          refine oGF rfl rfl rfl rfl rfl (by decide) ?_
          refine oGF rfl rfl rfl rfl rfl (by decide) ?_
          refine oP rfl (by exact pPick rfl rfl rfl) rfl (by decide) ?_
          refine oP rfl (by exact pMv (.inl rfl) rfl) rfl (by decide) ?_
          refine oGF rfl rfl rfl rfl rfl (by decide) ?_
          refine oGF rfl rfl rfl rfl rfl (by decide) ?_
          refine oGF rfl rfl rfl rfl rfl (by decide) ?_
          refine oGF rfl rfl rfl rfl rfl (by decide) ?_
          refine oGF rfl rfl rfl rfl rfl (by decide) ?_
          refine oGF rfl rfl rfl rfl rfl (by decide) ?_
          refine oGF rfl rfl rfl rfl rfl (by decide) ?_
          refine oGF rfl rfl rfl rfl rfl (by decide) ?_
          refine oGF rfl rfl rfl rfl rfl (by decide) ?_
          refine oGF rfl rfl rfl rfl rfl (by decide) ?_
          refine oGF rfl rfl rfl rfl rfl (by decide) ?_
          refine oGF rfl rfl rfl rfl rfl (by decide) ?_
          refine oGF rfl rfl rfl rfl rfl (by decide) ?_
          refine oGF rfl rfl rfl rfl rfl (by decide) ?_
          refine oP rfl (by exact pPick rfl rfl rfl) rfl (by decide) ?_
          refine oNil ?_
          refine aCondT rfl ?_
          refine aSeq ?_
          refine aReg ?_
          refine oP rfl (by exact pMv (.inl rfl) rfl) rfl (by decide) ?_
          refine oP rfl (by exact pLenS' (n := 0) (pLenS rfl rfl sl_24) (by rw [shape_none (by omega)]; rfl)) rfl (by decide) ?_
          refine oP rfl (by exact pBin rfl rfl rfl rfl (rfl : _ = Value.bool true)) rfl (by decide) ?_
          refine oP rfl (by exact pMv (.inl rfl) rfl) rfl (by decide) ?_
          refine oGT rfl rfl rfl rfl ?_
          refine (qCallV rfl rfl (by decide) rfl rfl (lents_refl _) law51_awake ?_).op
          refine oP rfl (by exact pPick rfl rfl rfl) rfl (by decide) ?_
          refine oP rfl (by exact pMv (.inr rfl) rfl) rfl (by decide) ?_
          refine oNil ?_
          refine aRet ?_
          refine ⟨_, [], _, rfl, .nil, rfl, rfl⟩
        · skip
          refine oGP rfl rfl rfl rfl (by exact pIdxA rfl rfl rfl ar_22 (by omega) (by omega)) rfl (by decide) ?_
          refine oGR rfl rfl rfl rfl (by first | exact rLdS1 rfl rfl ty_3 rfl | exact rLdB1 rfl rfl (by repeat constructor) ty_3 rfl) rfl (by decide) ?_
          refine oGP rfl rfl rfl rfl (by exact pBin rfl rfl rfl rfl rfl) rfl (by decide) ?_
          refine oP rfl (by exact pPick rfl rfl rfl) rfl (by decide) ?_
          refine oP rfl (by exact pMv (.inl rfl) rfl) rfl (by decide) ?_
          refine oSplitDec 38 rfl (fun c38 => ?_) (fun c38 => ?_)
          · skip
            refine oGF rfl rfl rfl rfl rfl (by decide) ?_
            refine oGF rfl rfl rfl rfl rfl (by decide) ?_
            refine oGF rfl rfl rfl rfl rfl (by decide) ?_
            refine oGF rfl rfl rfl rfl rfl (by decide) ?_
            refine oGF rfl rfl rfl rfl rfl (by decide) ?_
            refine oGF rfl rfl rfl rfl rfl (by decide) ?_
            refine oGF rfl rfl rfl rfl rfl (by decide) ?_
            refine oGF rfl rfl rfl rfl rfl (by decide) ?_
            refine oGF rfl rfl rfl rfl rfl (by decide) ?_
            refine oGF rfl rfl rfl rfl rfl (by decide) ?_
            refine oGF rfl rfl rfl rfl rfl (by decide) ?_
            refine oGF rfl rfl rfl rfl rfl (by decide) ?_
            refine oGF rfl rfl rfl rfl rfl (by decide) ?_
            refine oGF rfl rfl rfl rfl rfl (by decide) ?_
            refine oP rfl (by exact pPick rfl rfl rfl) rfl (by decide) ?_
            refine oNil ?_
            refine aCondT rfl ?_
            refine aSeq ?_
            refine aReg ?_
            refine oP rfl (by exact pMv (.inl rfl) rfl) rfl (by decide) ?_
            refine oP rfl (by exact pLenS' (n := 0) (pLenS rfl rfl sl_24) (by rw [shape_none (by omega)]; rfl)) rfl (by decide) ?_
            refine oP rfl (by exact pBin rfl rfl rfl rfl (rfl : _ = Value.bool true)) rfl (by decide) ?_
            refine oP rfl (by exact pMv (.inl rfl) rfl) rfl (by decide) ?_
            refine oGT rfl rfl rfl rfl ?_
            refine (qCallV rfl rfl (by decide) rfl rfl (lents_refl _) law51_awake ?_).op
            refine oP rfl (by exact pPick rfl rfl rfl) rfl (by decide) ?_
            refine oP rfl (by exact pMv (.inr rfl) rfl) rfl (by decide) ?_
            refine oNil ?_
            refine aRet ?_
            refine ⟨_, [], _, rfl, .nil, rfl, rfl⟩
          · skip
            refine oGP rfl rfl rfl rfl (by exact pMv (.inl rfl) rfl) rfl (by decide) ?_
            refine oGP rfl rfl rfl rfl (by exact pRem rfl rfl rfl (by first | decide | omega)) rfl (by decide) ?_
            refine oGP rfl rfl rfl rfl (by exact pBin rfl rfl rfl rfl rfl) rfl (by decide) ?_
            refine oGP rfl rfl rfl rfl (by exact pMv (.inl rfl) rfl) rfl (by decide) ?_
            refine oSplitEq 42 rfl (fun c42 => ?_) (fun c42 => ?_)
            · skip
              refine oGP rfl rfl rfl rfl (by exact pIdxA rfl rfl rfl ar_22 (by omega) (by omega)) rfl (by decide) ?_
              refine oGR rfl rfl rfl rfl (by first | exact rLdS1 rfl rfl ty_3 rfl | exact rLdB1 rfl rfl (by repeat constructor) ty_3 rfl) rfl (by decide) ?_
              refine oGP rfl rfl rfl rfl (by exact pBin rfl rfl rfl rfl rfl) rfl (by decide) ?_
              refine oGP rfl rfl rfl rfl (by exact pMv (.inl rfl) rfl) rfl (by decide) ?_
              refine oSplitDec 46 rfl (fun c46 => ?_) (fun c46 => ?_)
              · skip
                refine oGF rfl rfl rfl rfl rfl (by decide) ?_
                refine oGF rfl rfl rfl rfl rfl (by decide) ?_
                refine oGF rfl rfl rfl rfl rfl (by decide) ?_
                refine oGF rfl rfl rfl rfl rfl (by decide) ?_
                refine oGP rfl rfl rfl rfl (by exact pPick rfl rfl rfl) rfl (by decide) ?_
                refine oGP rfl rfl rfl rfl (by exact pPick rfl rfl rfl) rfl (by decide) ?_
                refine oP rfl (by exact pPick rfl rfl rfl) rfl (by decide) ?_
                refine oNil ?_
                refine aCondT rfl ?_
                refine aSeq ?_
                refine aReg ?_
                refine oP rfl (by exact pMv (.inl rfl) rfl) rfl (by decide) ?_
                refine oP rfl (by exact pLenS' (n := 0) (pLenS rfl rfl sl_24) (by rw [shape_none (by omega)]; rfl)) rfl (by decide) ?_
                refine oP rfl (by exact pBin rfl rfl rfl rfl (rfl : _ = Value.bool true)) rfl (by decide) ?_
                refine oP rfl (by exact pMv (.inl rfl) rfl) rfl (by decide) ?_
                refine oGT rfl rfl rfl rfl ?_
                refine (qCallV rfl rfl (by decide) rfl rfl (lents_refl _) law51_awake ?_).op
                refine oP rfl (by exact pPick rfl rfl rfl) rfl (by decide) ?_
                refine oP rfl (by exact pMv (.inr rfl) rfl) rfl (by decide) ?_
                refine oNil ?_
                refine aRet ?_
                refine ⟨_, [], _, rfl, .nil, rfl, rfl⟩
              · skip
                refine oGP rfl rfl rfl rfl (by exact pIdxA rfl rfl rfl ar_22 (by omega) (by omega)) rfl (by decide) ?_
                refine oGR rfl rfl rfl rfl (by first | exact rLdS1 rfl rfl ty_3 rfl | exact rLdB1 rfl rfl (by repeat constructor) ty_3 rfl) rfl (by decide) ?_
                refine oGP rfl rfl rfl rfl (by exact pMv (.inl rfl) rfl) rfl (by decide) ?_
                refine oGP rfl rfl rfl rfl (by exact pBin rfl rfl rfl rfl rfl) rfl (by decide) ?_
                refine oGP rfl rfl rfl rfl (by exact pPick rfl rfl rfl) rfl (by decide) ?_
                refine oGP rfl rfl rfl rfl (by exact pPick rfl rfl rfl) rfl (by decide) ?_
                refine oP rfl (by exact pPick rfl rfl rfl) rfl (by decide) ?_
                refine oNil ?_
                refine aCondDec rfl (fun c53 => ?_) (fun c53 => ?_)
                · skip
                  refine aSeq ?_
                  refine aReg ?_
                  refine oP rfl (by exact pMv (.inl rfl) rfl) rfl (by decide) ?_
                  refine oP rfl (by exact pLenS' (n := 0) (pLenS rfl rfl sl_24) (by rw [shape_none (by omega)]; rfl)) rfl (by decide) ?_
                  refine oP rfl (by exact pBin rfl rfl rfl rfl (rfl : _ = Value.bool true)) rfl (by decide) ?_
                  refine oP rfl (by exact pMv (.inl rfl) rfl) rfl (by decide) ?_
                  refine oGT rfl rfl rfl rfl ?_
                  refine (qCallV rfl rfl (by decide) rfl rfl (lents_refl _) law51_awake ?_).op
                  refine oP rfl (by exact pPick rfl rfl rfl) rfl (by decide) ?_
                  refine oP rfl (by exact pMv (.inr rfl) rfl) rfl (by decide) ?_
                  refine oNil ?_
                  refine aRet ?_
                  refine ⟨_, [], _, rfl, .nil, rfl, rfl⟩
                · skip
                  refine aSkip ?_
                  refine aSeq ?_
                  obtain ⟨m, rfl, hm, hmc, hms⟩ := shapes_int (k := kv.tmod 5) (n := n) (col := x0) (cost := x1) hk5 (by omega) (by omega) (by omega) (by omega) (fun h => by omega)
                  refine aReg ?_
                  refine oP rfl (by exact pMv (.inl rfl) rfl) rfl (by decide) ?_
                  refine oP rfl (by exact pMv (.inl rfl) rfl) rfl (by decide) ?_
                  refine oP rfl (by exact pRem rfl rfl rfl (by first | decide | omega)) rfl (by decide) ?_
                  refine oP rfl (by exact pConv rfl rfl ik_5 ik_3 (wrap_i64 (by omega) (by omega))) rfl (by decide) ?_
                  refine oP rfl (by exact pMv (.inl rfl) rfl) rfl (by decide) ?_
                  refine oP rfl (by exact pIdxA rfl rfl rfl ar_22 (by omega) (by omega)) rfl (by decide) ?_
                  refine oR rfl (by first | exact rLdS1 rfl rfl ty_3 rfl | exact rLdB1 rfl rfl (by repeat constructor) ty_3 rfl) rfl (by decide) ?_
                  refine oP rfl (by exact pIdxA rfl rfl rfl ar_22 (by omega) (by omega)) rfl (by decide) ?_
                  refine oR rfl (by first | exact rLdS1 rfl rfl ty_3 rfl | exact rLdB1 rfl rfl (by repeat constructor) ty_3 rfl) rfl (by decide) ?_
                  refine oQ rfl ?_
                  refine qCall0 rfl rfl (by decide) rfl rfl (ref51_Shape (kv.tmod 5) m x0 x1 hm hmc) ?_
                  rintro _ _ ⟨rfl, rfl⟩
                  refine oQ rfl ?_
                  refine qCallV rfl rfl (by decide) rfl rfl (lents_refl _) (ref50_Same (shapeL (kv.tmod 5) m x0 x1) (refS (kv.tmod 5) m x0 x1 m) (by have := shapeL_len (kv.tmod 5) m x0 x1; omega) (by rw [← hms]; have := shapeL_len (kv.tmod 5) m x0 x1; omega)) ?_
                  rw [show decide (shapeL (kv.tmod 5) m x0 x1 = refS (kv.tmod 5) m x0 x1 m) = true by rw [hms]; simp]
                  refine oP rfl (by exact pMv (.inl rfl) rfl) rfl (by decide) ?_
                  refine oGT rfl rfl rfl rfl ?_
                  refine (qCallV rfl rfl (by decide) rfl rfl (lents_refl _) law51_awake ?_).op
                  refine oP rfl (by exact pPick rfl rfl rfl) rfl (by decide) ?_
                  refine oP rfl (by exact pMv (.inr rfl) rfl) rfl (by decide) ?_
                  refine oNil ?_
                  refine aRet ?_
                  refine ⟨_, [], _, rfl, .nil, rfl, rfl⟩
            · skip
              refine oGF rfl rfl rfl rfl rfl (by decide) ?_
              refine oGF rfl rfl rfl rfl rfl (by decide) ?_
              refine oGF rfl rfl rfl rfl rfl (by decide) ?_
              refine oGF rfl rfl rfl rfl rfl (by decide) ?_
              refine oGF rfl rfl rfl rfl rfl (by decide) ?_
              refine oGF rfl rfl rfl rfl rfl (by decide) ?_
              refine oGF rfl rfl rfl rfl rfl (by decide) ?_
              refine oGF rfl rfl rfl rfl rfl (by decide) ?_
              refine oGF rfl rfl rfl rfl rfl (by decide) ?_
              refine oGP rfl rfl rfl rfl (by exact pPick rfl rfl rfl) rfl (by decide) ?_
              refine oP rfl (by exact pPick rfl rfl rfl) rfl (by decide) ?_
              refine oNil ?_
              refine aCondF rfl ?_
              refine aSkip ?_
              refine aSeq ?_
              obtain ⟨m, rfl, hm, hmc, hms⟩ := shapes_int (k := kv.tmod 5) (n := n) (col := x0) (cost := x1) hk5 (by omega) (by omega) (by omega) (by omega) (fun h => by omega)
              refine aReg ?_
              refine oP rfl (by exact pMv (.inl rfl) rfl) rfl (by decide) ?_
              refine oP rfl (by exact pMv (.inl rfl) rfl) rfl (by decide) ?_
              refine oP rfl (by exact pRem rfl rfl rfl (by first | decide | omega)) rfl (by decide) ?_
              refine oP rfl (by exact pConv rfl rfl ik_5 ik_3 (wrap_i64 (by omega) (by omega))) rfl (by decide) ?_
              refine oP rfl (by exact pMv (.inl rfl) rfl) rfl (by decide) ?_
              refine oP rfl (by exact pIdxA rfl rfl rfl ar_22 (by omega) (by omega)) rfl (by decide) ?_
              refine oR rfl (by first | exact rLdS1 rfl rfl ty_3 rfl | exact rLdB1 rfl rfl (by repeat constructor) ty_3 rfl) rfl (by decide) ?_
              refine oP rfl (by exact pIdxA rfl rfl rfl ar_22 (by omega) (by omega)) rfl (by decide) ?_
              refine oR rfl (by first | exact rLdS1 rfl rfl ty_3 rfl | exact rLdB1 rfl rfl (by repeat constructor) ty_3 rfl) rfl (by decide) ?_
              refine oQ rfl ?_
              refine qCall0 rfl rfl (by decide) rfl rfl (ref51_Shape (kv.tmod 5) m x0 x1 hm hmc) ?_
              rintro _ _ ⟨rfl, rfl⟩
              refine oQ rfl ?_
              refine qCallV rfl rfl (by decide) rfl rfl (lents_refl _) (ref50_Same (shapeL (kv.tmod 5) m x0 x1) (refS (kv.tmod 5) m x0 x1 m) (by have := shapeL_len (kv.tmod 5) m x0 x1; omega) (by rw [← hms]; have := shapeL_len (kv.tmod 5) m x0 x1; omega)) ?_
              rw [show decide (shapeL (kv.tmod 5) m x0 x1 = refS (kv.tmod 5) m x0 x1 m) = true by rw [hms]; simp]
              refine oP rfl (by exact pMv (.inl rfl) rfl) rfl (by decide) ?_
              refine oGT rfl rfl rfl rfl ?_
              refine (qCallV rfl rfl (by decide) rfl rfl (lents_refl _) law51_awake ?_).op
              refine oP rfl (by exact pPick rfl rfl rfl) rfl (by decide) ?_
              refine oP rfl (by exact pMv (.inr rfl) rfl) rfl (by decide) ?_
              refine oNil ?_
              refine aRet ?_
              refine ⟨_, [], _, rfl, .nil, rfl, rfl⟩

end A
end Go.Proofs.Ytmkphhjlmhhokaa
