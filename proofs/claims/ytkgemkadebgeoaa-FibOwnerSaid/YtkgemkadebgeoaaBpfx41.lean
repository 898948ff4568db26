/- What functions of the program compute: pfx41 -/
import Derived.Test.YtkgemkadebgeoaaBtrie42h
import Derived.Test.YtkgemkadebgeoaaProg
import Derived.KernelRfl
set_option linter.unusedVariables false
set_option linter.unusedSimpArgs false
namespace Go.Proofs.Ytkgemkadebgeoaa
namespace A

theorem fd_29_0 : fieldOf Try.prog 29 0 = some (0, 1, false) := by kernel_rfl
theorem fd_29_1 : fieldOf Try.prog 29 1 = some (1, 1, false) := by kernel_rfl
theorem ik_27 : intKindOf Try.prog 27 = some .u32 := by kernel_rfl
theorem ik_3 : intKindOf Try.prog 3 = some .i64 := by kernel_rfl
theorem ik_51 : intKindOf Try.prog 51 = some .u64 := by kernel_rfl
theorem st_29 : structPlaces Try.prog 29 = some [(0, 1), (1, 1)] := by kernel_rfl
theorem ty_27 : tyOf Try.prog 27 = some (1, false) := by kernel_rfl
theorem ty_29 : tyOf Try.prog 29 = some (2, true) := by kernel_rfl
theorem ty_3 : tyOf Try.prog 3 = some (1, false) := by kernel_rfl
theorem ze_29 : zeroOf Try.prog 29 = some (.agg #[.int .u32 0, .int .i64 0]) := by kernel_rfl
abbrev u32 (b : Nat) : AV := .v (.int .u32 (b : Int))
def pfxC (b : Nat) (n : Int) : List AV := [u32 b, .int n]
def maskN (m : Nat) : Nat := 2 ^ 32 - 2 ^ (32 - m)
def okP (b : Nat) (n : Int) : Bool := (decide (0 ≤ n) && decide (n ≤ 32)) && (b % 2 ^ (32 - n.toNat) == 0)
theorem mask_lt (m : Nat) : maskN m < 2 ^ 32 := by have := two_pos (32 - m); unfold maskN; omega
theorem mask_shl {m : Nat} (h : 1 ≤ m) (h2 : m ≤ 32) : 4294967295 * 2 ^ (32 - m) % 2 ^ 32 = maskN m := by
  unfold maskN
  have h1 : 2 ^ (32 - m) ≤ 2 ^ 32 := Nat.pow_le_pow_right (by decide) (by omega)
  have h3 : 2 ^ (32 - m) < 2 ^ 32 := Nat.pow_lt_pow_right (by decide) (by omega)
  have h4 := two_pos (32 - m)
  generalize 2 ^ (32 - m) = p at *
  omega
theorem okP_iff {b : Nat} {n : Int} : okP b n = true ↔ 0 ≤ n ∧ n ≤ 32 ∧ b % 2 ^ (32 - n.toNat) = 0 := by
  simp only [okP, Bool.and_eq_true, decide_eq_true_eq, beq_iff_eq, and_assoc]
theorem bool_eq_iff {a : Bool} {p : Prop} [Decidable p] (h : a = true ↔ p) : a = decide p := by rw [Bool.eq_iff_iff, h]; simp
/-- All bits from a place on are nought. -/
theorem low_zero (b : Nat) : ∀ (r : Nat), b % 2 ^ r = 0 ↔ ∀ i, i < r → b / 2 ^ i % 2 = 0
  | 0 => by simp [Nat.mod_one]
  | r + 1 => by
    rw [Nat.mod_pow_succ]
    constructor
    · intro h i hi
      have hp := two_pos r
      have h1 : b % 2 ^ r = 0 := by omega
      have h2 : b / 2 ^ r % 2 = 0 := by
        rcases Nat.mod_two_eq_zero_or_one (b / 2 ^ r) with h3 | h3
        · exact h3
        · rw [h3, Nat.mul_one] at h; omega
      rcases Nat.lt_or_ge i r with hlt | hge
      · exact (low_zero b r).1 h1 i hlt
      · rw [show i = r by omega]; exact h2
    · intro h
      rw [(low_zero b r).2 (fun i hi => h i (by omega)), h r (by omega)]
      simp
theorem high_eq (a b : Nat) : ∀ (k r : Nat), k ≤ r → a < 2 ^ r → b < 2 ^ r → ((∀ i, i < k → b / 2 ^ (r - 1 - i) % 2 = a / 2 ^ (r - 1 - i) % 2) ↔ b / 2 ^ (r - k) = a / 2 ^ (r - k))
  | 0, r, _, ha, hb => by simp [Nat.div_eq_of_lt ha, Nat.div_eq_of_lt hb]
  | k + 1, r, hk, ha, hb => by
    have ih := high_eq a b k r (by omega) ha hb
    have e : ∀ x : Nat, x / 2 ^ (r - k) = x / 2 ^ (r - (k + 1)) / 2 := fun x => by
      rw [Nat.div_div_eq_div_mul, ← Nat.pow_succ]
      congr 2
      omega
    rw [e, e] at ih
    have hk1 : r - 1 - k = r - (k + 1) := by omega
    constructor
    · intro h
      have h1 := ih.1 (fun i hi => h i (by omega))
      have h2 := h k (by omega)
      rw [hk1] at h2
      omega
    · intro h i hi
      rcases Nat.lt_or_ge i k with hlt | hge
      · exact ih.2 (by rw [h]) i hlt
      · rw [show i = k by omega, hk1, h]

/- prefix.mask -/
set_option maxRecDepth 100000 in
set_option maxHeartbeats 400000 in
theorem prefix_mask (m : Nat) (hm : m ≤ 32) : Triple Try.prog 104 [.int m] [] (fun r h' => r = u32 (maskN m) ∧ h' = []) := by
  refine triple_of Try.func104 rfl (by kernel_rfl) rfl (by simp) ?_
  refine aSeq ?_
  refine aReg ?_
  refine sp pMa ?_
  refine oNil ?_
  refine aSeq ?_
  refine aSeq ?_
  refine aReg ?_
  refine sp pM ?_
  refine sp pB ?_
  refine oNil ?_
  refine aCondEq rfl (fun c4 => ?_) (fun c4 => ?_)
  · skip
    refine aSeq ?_
    refine aReg ?_
    refine sp pMa ?_
    refine oNil ?_
    refine aRet ?_
    refine ⟨_, [], _, rfl, .nil, ?_, rfl⟩
    obtain rfl : m = 0 := by omega
    rfl
  · skip
    refine aSkip ?_
    refine aSeq ?_
    refine aReg ?_
    refine sp pM ?_
    refine sp pSu ?_
    refine sp (pShlU (r := 32 - m) (c := maskN m) (a := 4294967295) rfl rfl rfl (by omega) (by omega) (mask_shl (by omega) hm)) ?_
    refine sp pMa ?_
    refine oNil ?_
    refine aRet ?_
    refine ⟨_, [], _, rfl, .nil, ?_, rfl⟩
    rfl

/- prefix.Check -/
def prefix_Check_r1_T : Bool × List (List Nat × List Nat) := (true, [([], []), ([0], [0]), ([1], [1]), ([2], [2]), ([3], [3]), ([4, 3], [3, 4]), ([5, 3], [3, 5]), ([3, 6], [3, 6]), ([7, 3], [7]), ([8], [8]), ([9, 8], [8, 9]), ([8], [8]), ([11, 8], [8, 11]), ([12, 8, 8], [8, 12]), ([10, 13, 8], [8, 10, 13]), ([14, 8], [8, 14]), ([8, 15], [8, 15])])
def prefix_Check_r1_B : List Nat := [0, 1, 3, 7, 15, 31, 63, 127, 255, 511, 1023, 511, 2559, 6655, 16383, 32767, 65535]
theorem prefix_Check_r1_t : Go.Proofs.YtkgemkadebgeoaaW.PrintLast.rtab .any (Go.Proofs.YtkgemkadebgeoaaW.PrintLast.opsOf Try.f70 1) = prefix_Check_r1_T := by kernel_rfl
theorem prefix_Check_r1_b : Go.Proofs.YtkgemkadebgeoaaW.PrintLast.waitsOk prefix_Check_r1_T.2 prefix_Check_r1_B = true := by kernel_rfl
set_option maxRecDepth 100000 in
set_option maxHeartbeats 400000 in
theorem prefix_Check (b : Nat) (n : Int) (hb : b < 2 ^ 32) : Triple Try.prog 70 [.agg (pfxC b n)] [] (fun r h' => r = .int (if okP b n then 0 else 1) ∧ h' = []) := by
  refine triple_of Try.func70 rfl (by kernel_rfl) rfl (by simp) ?_
  refine aSeq ?_
  refine aReg ?_
  refine sq ?_
  refine qBox rfl rfl (by decide) rfl rfl (fun b1 => ?_)
  refine sp pMa ?_
  refine oNil ?_
  refine aSeq ?_
  refine aSeq ?_
  refine aDrawT prefix_Check_r1_t prefix_Check_r1_b [] 17 #[false, false, false, false, false, false, false, false, false, false, false, false, false, false, false, false, false] (by kernel_rfl) rfl rfl (fun HT => ?_)
  refine dp HT 0 rfl (pFb fd_29_1) ?_
  refine dr HT 1 rfl (rB1 ty_3) ?_
  refine dp HT 2 rfl pB ?_
  refine dp HT 3 rfl pM ?_
  refine dSplitDec 6 rfl (fun c6 => ?_) (fun c6 => ?_)
  · skip
    refine dS HT 4 rfl ?_
    refine dS HT 5 rfl ?_
    refine dS HT 6 rfl ?_
    refine dp HT 7 rfl pK ?_
    refine dp HT 8 rfl pM ?_
    refine dS HT 9 rfl ?_
    refine dS HT 10 rfl ?_
    refine dS HT 11 rfl ?_
    refine dS HT 12 rfl ?_
    refine dGo ?_
    refine eS HT 13 rfl ?_
    refine eS HT 14 rfl ?_
    refine eS HT 15 rfl ?_
    refine ef HT 16 rfl pK ?_
    refine eE HT ?_
    clear HT
    refine aCondT rfl ?_
    refine aSeq ?_
    refine aReg ?_
    refine sp pMa ?_
    refine oNil ?_
    refine aRet ?_
    refine ⟨_, [], _, rfl, .nil, ?_, rfl⟩
    show AV.int 1 = AV.int _
    rw [if_neg]
    rw [okP_iff]
    rintro ⟨k1, k2, k3⟩
    first
      | (clear k3; omega)
      | (have hm : m ≤ 32 := by clear k3; omega
         refine c19 ?_
         show ((b &&& (2 ^ 32 - 1 - maskN m) : Nat) : Int) = 0
         rw [maskN, and_low b (32 - m) (by omega)]
         rw [show (m : Int).toNat = m by omega] at k3
         rw [k3]; rfl)
  · skip
    refine dpG HT 4 rfl (pFb fd_29_1) ?_
    refine drG HT 5 rfl (rB1 ty_3) ?_
    refine dpG HT 6 rfl pB ?_
    refine dp HT 7 rfl pK ?_
    refine dp HT 8 rfl pM ?_
    refine dSplitDec 11 rfl (fun c11 => ?_) (fun c11 => ?_)
    · skip
      refine dS HT 9 rfl ?_
      refine dS HT 10 rfl ?_
      refine dS HT 11 rfl ?_
      refine dS HT 12 rfl ?_
      refine dGo ?_
      refine eS HT 13 rfl ?_
      refine eS HT 14 rfl ?_
      refine eS HT 15 rfl ?_
      refine ef HT 16 rfl pK ?_
      refine eE HT ?_
      clear HT
      refine aCondT rfl ?_
      refine aSeq ?_
      refine aReg ?_
      refine sp pMa ?_
      refine oNil ?_
      refine aRet ?_
      refine ⟨_, [], _, rfl, .nil, ?_, rfl⟩
      show AV.int 1 = AV.int _
      rw [if_neg]
      rw [okP_iff]
      rintro ⟨k1, k2, k3⟩
      first
        | (clear k3; omega)
        | (have hm : m ≤ 32 := by clear k3; omega
           refine c19 ?_
           show ((b &&& (2 ^ 32 - 1 - maskN m) : Nat) : Int) = 0
           rw [maskN, and_low b (32 - m) (by omega)]
           rw [show (m : Int).toNat = m by omega] at k3
           rw [k3]; rfl)
    · skip
      refine dpG HT 9 rfl (pFb fd_29_0) ?_
      refine drG HT 10 rfl (rB1 ty_27) ?_
      refine dpG HT 11 rfl (pFb fd_29_1) ?_
      refine drG HT 12 rfl (rB1 ty_3) ?_
      refine dGo ?_
      obtain ⟨m, rfl⟩ : ∃ m : Nat, n = m := ⟨n.toNat, by omega⟩
      refine e1G HT 13 rfl ?_
      refine qCallV rfl rfl (by decide) rfl rfl (lents_refl _) (prefix_mask m (by omega)) ?_
      refine efG HT 14 rfl (pBin rfl rfl rfl rfl (u32_andNot hb (mask_lt m))) ?_
      refine efG HT 15 rfl pB ?_
      refine ef HT 16 rfl pK ?_
      refine eE HT ?_
      clear HT
      refine aCondNe rfl (fun c19 => ?_) (fun c19 => ?_)
      · skip
        refine aSeq ?_
        refine aReg ?_
        refine sp pMa ?_
        refine oNil ?_
        refine aRet ?_
        refine ⟨_, [], _, rfl, .nil, ?_, rfl⟩
        show AV.int 1 = AV.int _
        rw [if_neg]
        rw [okP_iff]
        rintro ⟨k1, k2, k3⟩
        first
          | (clear k3; omega)
          | (have hm : m ≤ 32 := by clear k3; omega
             refine c19 ?_
             show ((b &&& (2 ^ 32 - 1 - maskN m) : Nat) : Int) = 0
             rw [maskN, and_low b (32 - m) (by omega)]
             rw [show (m : Int).toNat = m by omega] at k3
             rw [k3]; rfl)
      · skip
        refine aSkip ?_
        refine aSeq ?_
        refine aReg ?_
        refine sp pMa ?_
        refine oNil ?_
        refine aRet ?_
        refine ⟨_, [], _, rfl, .nil, ?_, rfl⟩
        show AV.int 0 = AV.int _
        rw [if_pos]
        rw [okP_iff]
        have hz : ((b &&& (2 ^ 32 - 1 - maskN m) : Nat) : Int) = 0 := c19
        rw [maskN, and_low b (32 - m) (by omega)] at hz
        exact ⟨by omega, by omega, by rw [show (m : Int).toNat = m by omega]; exact Int.ofNat.inj hz⟩

/- prefix.Cut -/
set_option maxRecDepth 100000 in
set_option maxHeartbeats 400000 in
theorem prefix_Cut (a m : Nat) (ha : a < 2 ^ 32) (hm : m ≤ 32) : Triple Try.prog 75 [u32 a, .int m] [] (fun r h' => r = .agg (pfxC (cutN a (32 - m)) m) ∧ h' = []) := by
  refine triple_ofR Try.func75 rfl (by kernel_rfl) rfl (by simp) ?_
  refine aSeq ?_
  refine aReg ?_
  refine sq ?_
  refine qAlloc rfl rfl (by decide) ze_29 rfl (fun b4 => ?_)
  refine oNil ?_
  refine aSeq ?_
  refine aReg ?_
  refine sp pM ?_
  refine sp (pMax2 rfl rfl rfl (z := m) (by split <;> omega)) ?_
  refine sp (pMin2 rfl rfl rfl (z := m) (by split <;> omega)) ?_
  refine sp pMa ?_
  refine oNil ?_
  refine aSeq ?_
  refine aReg ?_
  refine sp pM ?_
  refine sp pM ?_
  refine sq ?_
  refine qCallV rfl rfl (by decide) rfl rfl (lents_refl _) (prefix_mask m hm) ?_
  refine sp (pBin rfl rfl rfl rfl (u32_and ha (mask_lt m))) ?_
  refine sp pM ?_
  refine sp (pBuild rfl st_29 ze_29 rfl rfl rfl rfl) ?_
  refine sa ?_
  refine oStW rfl rfl rfl rfl (by repeat constructor) ty_29 ?_
  refine oNil ?_
  refine aRet ?_
  refine ⟨_, [], _, .cons (.cellA rfl List.mem_cons_self ty_29) .nil, .nil, ?_, rfl⟩
  have hz := and_mask a (32 - m) (by omega) ha
  show AV.agg [u32 (a &&& maskN m), .int m] = AV.agg (pfxC (cutN a (32 - m)) m)
  rw [maskN, hz]
  rfl

/- waymarkref41.Bit -/
set_option maxRecDepth 100000 in
set_option maxHeartbeats 400000 in
theorem ref41_Bit (a i : Nat) (ha : a < 2 ^ 32) (hi : i < 32) : Triple Try.prog 68 [u32 a, .int i] [] (fun r h' => r = u32 (a / 2 ^ (31 - i) % 2) ∧ h' = []) := by
  refine triple_of Try.func68 rfl (by kernel_rfl) rfl (by simp) ?_
  refine aSeq ?_
  refine aReg ?_
  refine sp pMa ?_
  refine oNil ?_
  refine aSeq ?_
  refine aReg ?_
  refine sp pM ?_
  refine sp pM ?_
  refine sp pSu ?_
  refine sp (pConv rfl rfl ik_3 ik_51 (n' := ((31 - i : Nat) : Int)) (by rw [wrap_u64 (by omega) (by omega)]; omega)) ?_
  refine sp (pShrN (r := 31 - i) rfl rfl rfl rfl (by show 31 - i ≤ 32; omega)) ?_
  refine sp (pRem rfl rfl rfl (by decide)) ?_
  refine sp pMa ?_
  refine oNil ?_
  refine aRet ?_
  refine ⟨_, [], _, rfl, .nil, ?_, rfl⟩
  rfl

/- waymarkref41.May -/
set_option maxRecDepth 100000 in
set_option maxHeartbeats 400000 in
theorem ref41_May (b : Nat) (n : Int) (hb : b < 2 ^ 32) : Triple Try.prog 17 [.agg (pfxC b n)] [] (fun r h' => r = .v (.bool (okP b n)) ∧ h' = []) := by
  refine triple_of Try.func17 rfl (by kernel_rfl) rfl (by simp) ?_
  refine aSeq ?_
  refine aReg ?_
  refine sq ?_
  refine qBox rfl rfl (by decide) rfl rfl (fun b1 => ?_)
  refine sp pMa ?_
  refine oNil ?_
  refine aSeq ?_
  refine aSeq ?_
  refine aReg ?_
  refine sp (pFb fd_29_1) ?_
  refine sr (rB1 ty_3) ?_
  refine sp pB ?_
  refine sp pM ?_
  refine oSplitDec 7 rfl (fun c7 => ?_) (fun c7 => ?_)
  · skip
    refine gf ?_
    refine gf ?_
    refine gf ?_
    refine sp pK ?_
    refine oNil ?_
    refine aCondT rfl ?_
    refine aSeq ?_
    refine aReg ?_
    refine sp pMa ?_
    refine oNil ?_
    refine aRet ?_
    refine ⟨_, [], _, rfl, .nil, ?_, rfl⟩
    show AV.v (.bool false) = AV.v (.bool _)
    rw [show okP b n = false by rw [Bool.eq_false_iff, ne_eq, okP_iff]; rintro ⟨k1, k2, k3⟩; clear k3; omega]
  · skip
    refine gp (pFb fd_29_1) ?_
    refine gr (rB1 ty_3) ?_
    refine gp pB ?_
    refine sp pK ?_
    refine oNil ?_
    refine aCondDec rfl (fun c11 => ?_) (fun c11 => ?_)
    · skip
      refine aSeq ?_
      refine aReg ?_
      refine sp pMa ?_
      refine oNil ?_
      refine aRet ?_
      refine ⟨_, [], _, rfl, .nil, ?_, rfl⟩
      show AV.v (.bool false) = AV.v (.bool _)
      rw [show okP b n = false by rw [Bool.eq_false_iff, ne_eq, okP_iff]; rintro ⟨k1, k2, k3⟩; clear k3; omega]
    · skip
      refine aSkip ?_
      refine aSeq ?_
      refine aSeq ?_
      refine aReg ?_
      refine sp (pFb fd_29_1) ?_
      refine sr (rB1 ty_3) ?_
      refine sp pMa ?_
      refine oNil ?_
      refine aBlock ?_
      refine aLoopI (α := Nat) (fun i => n ≤ i ∧ i ≤ 32 ∧ ∀ k : Nat, n ≤ (k : Int) → k < i → b / 2 ^ (31 - k) % 2 = 0) (fun i => ([(1, .v (.pointer (some ⟨b1, 0, none⟩))), (3, .int i)], [.box b1 (pfxC b n)])) (fun i => 32 - i) n.toNat ?_ ?_ ?_
      · skip
        exact ⟨by omega, by omega, fun k h1 h2 => by omega⟩
      · skip
        exact weak_sub ⟨rfl, gInt rfl (by omega), trivial⟩ (by repeat constructor)
      · rintro i ⟨hi, hi2, hz⟩
        skip
        refine aSeq ?_
        refine aSeq ?_
        refine aReg ?_
        refine sp pM ?_
        refine sp pB ?_
        refine oNil ?_
        refine aCondDec rfl (fun c15 => ?_) (fun c15 => ?_)
        · skip
          refine aSkip ?_
          refine aSeq ?_
          refine aBlock ?_
          refine aSeq ?_
          refine aReg ?_
          refine sp (by first | exact pFb fd_29_0 | exact pFs fd_29_0) ?_
          refine sr (by first | exact rS1 ty_27 | exact rB1 ty_27 | exact rAr ty_27 | exact rArL ty_27 | exact rArR ty_27 (by first | rfl | exact arrF_len one_len)) ?_
          refine sp pM ?_
          refine sq ?_
          refine qCallV rfl rfl (by decide) rfl rfl (lents_refl _) (ref41_Bit b i hb (by omega)) ?_
          refine sp pB ?_
          refine oNil ?_
          refine aCondNe rfl (fun c22 => ?_) (fun c22 => ?_)
          · skip
            refine aSeq ?_
            refine aReg ?_
            refine sp pMa ?_
            refine oNil ?_
            refine aRet ?_
            refine ⟨_, [], _, rfl, .nil, ?_, rfl⟩
            show AV.v (.bool false) = AV.v (.bool _)
            rw [show okP b n = false by
              rw [Bool.eq_false_iff, ne_eq, okP_iff]
              rintro ⟨h1, h2, h3⟩
              have := (low_zero b _).1 h3 (31 - i) (by omega)
              exact c22 (by rw [show b / 2 ^ (31 - i) % 2 = 0 from this]; rfl)]
          · skip
            refine aSkip ?_
            refine aReg ?_
            refine sp pM ?_
            refine sp pAd ?_
            refine sp pMa ?_
            refine oNil ?_
            refine ⟨i + 1, ⟨by omega, by omega, fun k h1 h2 => ?_⟩, by show 32 - (i + 1) < 32 - i; omega, weak_sub ⟨rfl, gInt rfl (by simp), trivial⟩ (by repeat constructor)⟩
            rcases Nat.lt_or_ge k i with hlt | hge
            · exact hz k h1 hlt
            · obtain rfl : k = i := by omega
              exact Int.ofNat.inj c22
        · skip
          refine aExit rfl ?_
          refine aSeq ?_
          refine aReg ?_
          refine sp pMa ?_
          refine oNil ?_
          refine aRet ?_
          refine ⟨_, [], _, rfl, .nil, ?_, rfl⟩
          show AV.v (.bool true) = AV.v (.bool _)
          rw [show okP b n = true by
            rw [okP_iff]
            refine ⟨by omega, by omega, (low_zero b _).2 (fun i hi => ?_)⟩
            have := hz (31 - i) (by omega) (by omega)
            rwa [show 31 - (31 - i) = i by omega] at this]

/- waymarkref41.Within -/
set_option maxRecDepth 100000 in
set_option maxHeartbeats 400000 in
theorem ref41_Within (b m a : Nat) (hb : b < 2 ^ 32) (ha : a < 2 ^ 32) (hm : m ≤ 32) : Triple Try.prog 66 [.agg (pfxC b m), u32 a] [] (fun r h' => r = .v (.bool (b / 2 ^ (32 - m) == a / 2 ^ (32 - m))) ∧ h' = []) := by
  refine triple_of Try.func66 rfl (by kernel_rfl) rfl (by simp) ?_
  refine aSeq ?_
  refine aReg ?_
  refine sq ?_
  refine qBox rfl rfl (by decide) rfl rfl (fun b2 => ?_)
  refine sp pMa ?_
  refine oNil ?_
  refine aSeq ?_
  refine aSeq ?_
  refine aReg ?_
  refine sp pMa ?_
  refine oNil ?_
  refine aBlock ?_
  refine aLoopI (α := Nat) (fun i => i ≤ m ∧ ∀ k : Nat, k < i → b / 2 ^ (32 - 1 - k) % 2 = a / 2 ^ (32 - 1 - k) % 2) (fun i => ([(1, u32 a), (2, .v (.pointer (some ⟨b2, 0, none⟩))), (5, .int i)], [.box b2 (pfxC b m)])) (fun i => m - i) 0 ?_ ?_ ?_
  · skip
    exact ⟨by omega, fun k h => by omega⟩
  · skip
    exact weak_sub ⟨rfl, rfl, rfl, trivial⟩ (by repeat constructor)
  · rintro i ⟨hi, hz⟩
    skip
    refine aSeq ?_
    refine aSeq ?_
    refine aReg ?_
    refine sp pM ?_
    refine sp (by first | exact pFb fd_29_1 | exact pFs fd_29_1) ?_
    refine sr (by first | exact rS1 ty_3 | exact rB1 ty_3 | exact rAr ty_3 | exact rArL ty_3 | exact rArR ty_3 (by first | rfl | exact arrF_len one_len)) ?_
    refine sp pB ?_
    refine oNil ?_
    refine aCondDec rfl (fun c9 => ?_) (fun c9 => ?_)
    · skip
      refine aSkip ?_
      refine aSeq ?_
      refine aBlock ?_
      refine aSeq ?_
      refine aReg ?_
      refine sp (by first | exact pFb fd_29_0 | exact pFs fd_29_0) ?_
      refine sr (by first | exact rS1 ty_27 | exact rB1 ty_27 | exact rAr ty_27 | exact rArL ty_27 | exact rArR ty_27 (by first | rfl | exact arrF_len one_len)) ?_
      refine sp pM ?_
      refine sq ?_
      refine qCallV rfl rfl (by decide) rfl rfl (lents_refl _) (ref41_Bit b i hb (by omega)) ?_
      refine sp pM ?_
      refine sp pM ?_
      refine sq ?_
      refine qCallV rfl rfl (by decide) rfl rfl (lents_refl _) (ref41_Bit a i ha (by omega)) ?_
      refine sp pB ?_
      refine oNil ?_
      refine aCondNe rfl (fun c19 => ?_) (fun c19 => ?_)
      · skip
        refine aSeq ?_
        refine aReg ?_
        refine sp pMa ?_
        refine oNil ?_
        refine aRet ?_
        refine ⟨_, [], _, rfl, .nil, ?_, rfl⟩
        show AV.v (.bool false) = AV.v (.bool _)
        rw [show (b / 2 ^ (32 - m) == a / 2 ^ (32 - m)) = false by
          rw [beq_eq_false_iff_ne]
          intro h
          have h2 := (high_eq a b m 32 hm ha hb).2 h i (by omega)
          have h3 : b / 2 ^ (31 - i) % 2 = a / 2 ^ (31 - i) % 2 := h2
          exact c19 (by rw [h3])]
      · skip
        refine aSkip ?_
        refine aReg ?_
        refine sp pM ?_
        refine sp pAd ?_
        refine sp pMa ?_
        refine oNil ?_
        refine ⟨i + 1, ⟨by omega, fun k h => ?_⟩, by show m - (i + 1) < m - i; omega, weak_sub ⟨rfl, rfl, gInt rfl (by simp), trivial⟩ (by repeat constructor)⟩
        rcases Nat.lt_or_ge k i with hlt | hge
        · exact hz k hlt
        · obtain rfl : k = i := by omega
          exact Int.ofNat.inj c19
    · skip
      refine aExit rfl ?_
      refine aSeq ?_
      refine aReg ?_
      refine sp pMa ?_
      refine oNil ?_
      refine aRet ?_
      refine ⟨_, [], _, rfl, .nil, ?_, rfl⟩
      show AV.v (.bool true) = AV.v (.bool _)
      rw [show (b / 2 ^ (32 - m) == a / 2 ^ (32 - m)) = true by
        rw [beq_iff_eq]
        obtain rfl : i = m := by omega
        exact (high_eq a b i 32 hm ha hb).1 hz]

/- trie.bit -/
set_option maxRecDepth 100000 in
set_option maxHeartbeats 400000 in
theorem trie_bit (a i : Nat) (ha : a < 2 ^ 32) (hi : i < 32) : Triple Try.prog 74 [u32 a, .int i] [] (fun r h' => r = .int ((a / 2 ^ (31 - i) % 2 : Nat) : Int) ∧ h' = []) := by
  refine triple_of Try.func74 rfl (by kernel_rfl) rfl (by simp) ?_
  refine aSeq ?_
  refine aReg ?_
  refine sp pMa ?_
  refine oNil ?_
  refine aSeq ?_
  refine aReg ?_
  refine sp pM ?_
  refine sp pM ?_
  refine sp pSu ?_
  refine sp (pShrN (r := 31 - i) rfl rfl rfl (by omega) (by show 31 - i ≤ 32; omega)) ?_
  refine sp (pBin rfl rfl rfl rfl (u32_and (b := 1) (by have := Nat.div_le_self a (2 ^ (31 - i)); omega) (by decide))) ?_
  refine sp (pConv rfl rfl ik_27 ik_3 (n' := ((a / 2 ^ (31 - i) % 2 : Nat) : Int)) (by rw [Nat.and_one_is_mod, wrap_i64 (by omega) (by omega)])) ?_
  refine sp pMa ?_
  refine oNil ?_
  refine aRet ?_
  refine ⟨_, [], _, rfl, .nil, ?_, rfl⟩
  rfl

end A
end Go.Proofs.Ytkgemkadebgeoaa
