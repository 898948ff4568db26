/- What functions of the program compute: ref42 -/
import Derived.Test.YtkgemkadebgeoaaBpfx41
import Derived.Test.YtkgemkadebgeoaaProg
import Derived.KernelRfl
set_option linter.unusedVariables false
set_option linter.unusedSimpArgs false
namespace Go.Proofs.Ytkgemkadebgeoaa
namespace A

theorem el_26 : elemOf Try.prog 26 = some (31, 3, 24) := by kernel_rfl
theorem ep_31 : eqPlan Try.prog 31 = some (3, [(0, .i), (1, .i), (2, .i)]) := by kernel_rfl
theorem eq_29 : eqType Try.prog 29 = some [(0, .i), (1, .i)] := by kernel_rfl
theorem es_26 : elemSize Try.prog 26 = some 3 := by kernel_rfl
theorem fd_31_0 : fieldOf Try.prog 31 0 = some (0, 2, true) := by kernel_rfl
theorem fd_31_1 : fieldOf Try.prog 31 1 = some (2, 1, false) := by kernel_rfl
theorem sl_26 : isSl Try.prog 26 = true := by kernel_rfl
theorem st_31 : structPlaces Try.prog 31 = some [(0, 2), (2, 1)] := by kernel_rfl
theorem ty_31 : tyOf Try.prog 31 = some (3, true) := by kernel_rfl
theorem us_26 : Try.prog.underlying 26 = some (.slice 31) := by kernel_rfl
theorem ze_31 : zeroOf Try.prog 31 = some (.agg #[.int .u32 0, .int .i64 0, .int .i64 0]) := by kernel_rfl
def entC (e : Ent) : List AV := [u32 e.b, .int e.n, .int e.tv]
def aheadI (x : Ent) (b : Nat) (n : Int) : Bool := decide ((x.b : Int) < b) || (((x.b : Int) == b) && decide ((x.n : Int) < n))
def sameI (x : Ent) (b : Nat) (n : Int) : Bool := ((x.b : Int) == b) && ((x.n : Int) == n)
def getI : List Ent → Nat → Int → Int
  | [], _, _ => 0
  | x :: l, b, n => if sameI x b n then x.tv else getI l b n
def putI : Bool → List Ent → Nat → Int → Int → List Ent
  | d, [], b, n, tv => if d then [] else [⟨b, n.toNat, tv⟩]
  | d, x :: l, b, n, tv => (if !d && !aheadI x b n then [⟨b, n.toNat, tv⟩] else []) ++ ((if sameI x b n then [] else [x]) ++ putI (d || !aheadI x b n) l b n tv)
/-- Entries as they may be. -/
def EntOk (e : Ent) : Prop := e.b < 2 ^ 32 ∧ e.n ≤ 32 ∧ e.b % 2 ^ (32 - e.n) = 0
theorem sameI_nat (x : Ent) (b m : Nat) (tv : Int) : sameI x b m = sameP x ⟨b, m, tv⟩ := by
  rw [Bool.eq_iff_iff]
  simp only [sameI, sameP, Bool.and_eq_true, beq_iff_eq]
  omega
theorem aheadI_nat (x : Ent) (b m : Nat) (tv : Int) : aheadI x b m = aheadE x ⟨b, m, tv⟩ := by
  rw [Bool.eq_iff_iff]
  simp only [aheadI, aheadE, Bool.or_eq_true, Bool.and_eq_true, beq_iff_eq, decide_eq_true_iff]
  omega
theorem getI_nat (b m : Nat) : ∀ (l : List Ent), getI l b m = refGet l b m
  | [] => rfl
  | x :: l => by
    rw [getI, refGet, getI_nat b m l, sameI_nat x b m 0]
    by_cases h : x.b = b ∧ x.n = m
    · rw [if_pos h, if_pos (by simpa [sameP] using h)]
    · rw [if_neg h, if_neg (by simpa [sameP] using h)]
theorem putI_nat (b m : Nat) (tv : Int) : ∀ (l : List Ent) (d : Bool), putI d l b m tv = putAux d l ⟨b, m, tv⟩
  | [], d => by simp [putI, putAux]
  | x :: l, d => by rw [putI, putAux, putI_nat b m tv l, sameI_nat x b m tv, aheadI_nat x b m tv, Int.toNat_natCast]
theorem getI_bad {b : Nat} {n : Int} (h : okP b n = false) : ∀ (l : List Ent), (∀ e ∈ l, EntOk e) → getI l b n = 0
  | [], _ => rfl
  | x :: l, hl => by
    rw [getI, if_neg, getI_bad h l (fun e he => hl e (by simp [he]))]
    intro hs
    simp only [sameI, Bool.and_eq_true, beq_iff_eq] at hs
    obtain ⟨h1, h2, h3⟩ := hl x (by simp)
    have : okP b n = true := by
      rw [okP_iff]
      have e : n.toNat = x.n := by omega
      rw [e]
      have e2 : b = x.b := by omega
      rw [e2]
      exact ⟨by omega, by omega, h3⟩
    rw [h] at this
    cases this
theorem putI_bad {b : Nat} {n tv : Int} (h : okP b n = false) : ∀ (l : List Ent), (∀ e ∈ l, EntOk e) → putI true l b n tv = l
  | [], _ => rfl
  | x :: l, hl => by
    have hs : sameI x b n = false := by
      have := getI_bad h [x] (fun e he => hl e (by simp at he; simp [he]))
      cases hs : sameI x b n with
      | false => rfl
      | true =>
        exfalso
        simp only [sameI, Bool.and_eq_true, beq_iff_eq] at hs
        obtain ⟨h1, h2, h3⟩ := hl x (by simp)
        have : okP b n = true := by
          rw [okP_iff]
          have e : n.toNat = x.n := by omega
          rw [e]
          have e2 : b = x.b := by omega
          rw [e2]
          exact ⟨by omega, by omega, h3⟩
        rw [h] at this
        cases this
    rw [putI, hs, Bool.true_or, putI_bad h l (fun e he => hl e (by simp [he]))]
    rfl
theorem putI_len (b : Nat) (n tv : Int) : ∀ (l : List Ent) (d : Bool), (putI d l b n tv).length ≤ l.length + 1
  | [], d => by cases d <;> simp [putI]
  | x :: l, d => by
    rw [putI]
    have h1 := putI_len b n tv l (d || !aheadI x b n)
    have h2 : d = true ∨ aheadI x b n = false → (putI (d || !aheadI x b n) l b n tv).length ≤ l.length := by
      intro h
      have e : (d || !aheadI x b n) = true := by rcases h with h | h <;> simp [h]
      rw [e]
      clear h1 h e
      induction l with
      | nil => simp [putI]
      | cons y l ih =>
        rw [putI, Bool.true_or]
        simp only [List.length_append, List.length_cons]
        have : (if sameI y b n then ([] : List Ent) else [y]).length ≤ 1 := by split <;> simp
        have h0 : (if !true && !aheadI y b n then [⟨b, n.toNat, tv⟩] else ([] : List Ent)).length = 0 := by simp
        omega
    simp only [List.length_append, List.length_cons]
    have : (if sameI x b n then ([] : List Ent) else [x]).length ≤ 1 := by split <;> simp
    cases d with
    | true =>
      have := h2 (.inl rfl)
      simp only [Bool.not_true, Bool.false_and, Bool.false_eq_true, if_false, List.length_nil]
      omega
    | false =>
      cases ha : aheadI x b n with
      | true =>
        rw [ha] at h1
        simp only [Bool.not_true, Bool.or_false, Bool.and_false, Bool.false_eq_true, if_false, List.length_nil] at h1 ⊢
        omega
      | false =>
        have := h2 (.inr ha)
        rw [ha] at this
        simp only [Bool.not_false, Bool.or_true, Bool.and_true, if_true, List.length_cons, List.length_nil] at this ⊢
        omega
theorem entC_len (l : List Ent) : ∀ y ∈ l.map entC, y.length = 3 := by
  intro y hy
  obtain ⟨a, _, rfl⟩ := List.mem_map.1 hy
  rfl

/- waymarkref42.ahead -/
set_option maxRecDepth 100000 in
set_option maxHeartbeats 400000 in
theorem ref42_ahead (x : Ent) (b : Nat) (n : Int) : Triple Try.prog 73 [.agg (pfxC x.b x.n), .agg (pfxC b n)] [] (fun r h' => r = .v (.bool (aheadI x b n)) ∧ h' = []) := by
  refine triple_of Try.func73 rfl (by kernel_rfl) rfl (by simp) ?_
  refine aSeq ?_
  refine aReg ?_
  refine sq ?_
  refine qBox rfl rfl (by decide) rfl rfl (fun b2 => ?_)
  refine sq ?_
  refine qBox rfl rfl (by decide) rfl rfl (fun b3 => ?_)
  refine sp pMa ?_
  refine oNil ?_
  refine aSeq ?_
  refine aReg ?_
  refine sp (pFb fd_29_0) ?_
  refine sr (rB1 ty_27) ?_
  refine sp (pFb fd_29_0) ?_
  refine sr (rB1 ty_27) ?_
  refine sp pB ?_
  refine sp pM ?_
  refine oSplitDec 10 rfl (fun c10 => ?_) (fun c10 => ?_)
  · skip
    refine gf ?_
    refine gf ?_
    refine gf ?_
    refine gf ?_
    refine gf ?_
    refine gf ?_
    refine gf ?_
    refine gf ?_
    refine gf ?_
    refine gf ?_
    refine gf ?_
    refine gf ?_
    refine sp pK ?_
    refine sp pMa ?_
    refine oNil ?_
    refine aRet ?_
    refine ⟨_, [], _, rfl, .nil, ?_, rfl⟩
    show AV.v (.bool _) = AV.v (.bool _)
    simp_all [aheadI]
    all_goals omega
  · skip
    refine gp (pFb fd_29_0) ?_
    refine gr (rB1 ty_27) ?_
    refine gp (pFb fd_29_0) ?_
    refine gr (rB1 ty_27) ?_
    refine gp pB ?_
    refine gp pM ?_
    refine oSplitEq 16 rfl (fun c16 => ?_) (fun c16 => ?_)
    · skip
      refine gp (pFb fd_29_1) ?_
      refine gr (rB1 ty_3) ?_
      refine gp (pFb fd_29_1) ?_
      refine gr (rB1 ty_3) ?_
      refine gp pB ?_
      refine gp pK ?_
      refine sp pK ?_
      refine sp pMa ?_
      refine oNil ?_
      refine aRet ?_
      refine ⟨_, [], _, rfl, .nil, ?_, rfl⟩
      show AV.v (.bool _) = AV.v (.bool _)
      simp_all [aheadI]
      all_goals omega
    · skip
      refine gf ?_
      refine gf ?_
      refine gf ?_
      refine gf ?_
      refine gf ?_
      refine gp pK ?_
      refine sp pK ?_
      refine sp pMa ?_
      refine oNil ?_
      refine aRet ?_
      refine ⟨_, [], _, rfl, .nil, ?_, rfl⟩
      show AV.v (.bool _) = AV.v (.bool _)
      simp_all [aheadI]
      all_goals omega

/- waymarkref42.Get -/
def ref42_Get_r4_T : Bool × List (List Nat × List Nat) := (true, [([], []), ([], []), ([0, 1], [0, 1]), ([2], [2]), ([3], [3]), ([], []), ([4, 5], [4, 5])])
def ref42_Get_r4_B : List Nat := [0, 0, 3, 7, 15, 0, 63]
theorem ref42_Get_r4_t : Go.Proofs.YtkgemkadebgeoaaW.PrintLast.rtab .any (Go.Proofs.YtkgemkadebgeoaaW.PrintLast.opsOf Try.f18 4) = ref42_Get_r4_T := by kernel_rfl
theorem ref42_Get_r4_b : Go.Proofs.YtkgemkadebgeoaaW.PrintLast.waitsOk ref42_Get_r4_T.2 ref42_Get_r4_B = true := by kernel_rfl
set_option maxRecDepth 100000 in
set_option maxHeartbeats 400000 in
theorem ref42_Get (l : List Ent) (b : Nat) (n : Int) (hl : l.length ≤ 4000) : Triple Try.prog 18 [AV.sl 3 (l.map entC), .agg (pfxC b n)] [] (fun r h' => r = .int (getI l b n) ∧ h' = []) := by
  refine triple_of Try.func18 rfl (by kernel_rfl) rfl (by simp) ?_
  refine aSeq ?_
  refine aReg ?_
  refine sq ?_
  refine qBox rfl rfl (by decide) rfl rfl (fun b3 => ?_)
  refine sp pMa ?_
  refine oNil ?_
  refine aSeq ?_
  refine aSeq ?_
  refine aReg ?_
  refine sp pMa ?_
  refine oNil ?_
  refine aBlock ?_
  refine aLoopI (α := Nat) (fun i => i ≤ l.length ∧ getI l b n = getI (l.drop i) b n) (fun i => ([(0, AV.sl 3 (l.map entC)), (3, .v (.pointer (some ⟨b3, 0, none⟩))), (5, .int i)], [.box b3 (pfxC b n)])) (fun i => l.length - i) 0 ?_ ?_ ?_
  · skip
    exact ⟨by omega, rfl⟩
  · skip
    exact weak_sub ⟨rfl, rfl, gInt rfl (by simp), trivial⟩ (by repeat constructor)
  · rintro i ⟨hi, hv⟩
    skip
    refine aSeq ?_
    refine aSeq ?_
    refine aReg ?_
    refine sp pM ?_
    refine sp pM ?_
    refine sp (by first | exact pLm sl_26 | exact pLs sl_26 | exact pLv sl_26) ?_
    refine sp pB ?_
    refine oNil ?_
    refine aCondDec rfl (fun c9 => ?_) (fun c9 => ?_)
    · skip
      refine aSkip ?_
      refine aSeq ?_
      refine aBlock ?_
      refine aSeq ?_
      refine aDrawT ref42_Get_r4_t ref42_Get_r4_b [] 7 #[false, false, false, false, false, false, false] (by kernel_rfl) rfl rfl (fun HT => ?_)
      refine dp HT 0 rfl pM ?_
      refine dp HT 1 rfl pM ?_
      obtain ⟨a, ha⟩ : ∃ a, l[i]? = some a := ⟨_, List.getElem?_eq_getElem (by omega)⟩
      refine dp HT 2 rfl (pIdxS rfl rfl rfl es_26 (by omega) (map_get (f := entC) ha)) ?_
      refine dp HT 3 rfl (by first | exact pFb fd_31_0 | exact pFs fd_31_0) ?_
      refine dr HT 4 rfl (by first | exact rSW ty_29 rfl | exact rSA ty_29 | exact rBWa ty_29 | exact rBW ty_29 | exact rBA ty_29 | exact rArA ty_29 (fun _ => rfl)) ?_
      refine dr HT 5 rfl (by first | exact rSW ty_29 rfl | exact rSA ty_29 | exact rBWa ty_29 | exact rBW ty_29 | exact rBA ty_29 | exact rArA ty_29 (fun _ => rfl)) ?_
      refine dp HT 6 rfl (pEqAe eq_29) ?_
      refine dE HT ?_
      clear HT
      refine aCond rfl (fun c18 => ?_) (fun c18 => ?_)
      · skip
        refine aSeq ?_
        refine aReg ?_
        refine sp pM ?_
        refine sp pM ?_
        refine sp (pIdxS rfl rfl rfl es_26 (by omega) (map_get (f := entC) ha)) ?_
        refine sp (by first | exact pFb fd_31_1 | exact pFs fd_31_1) ?_
        refine sr (by first | exact rS1 ty_3 | exact rB1 ty_3 | exact rAr ty_3 | exact rArL ty_3 | exact rArR ty_3 (by first | rfl | exact arrF_len one_len)) ?_
        refine sp pMa ?_
        refine oNil ?_
        refine aRet ?_
        refine ⟨_, [], _, rfl, .nil, ?_, rfl⟩
        show AV.int a.tv = AV.int _
        have hs : sameI a b n = true := by simpa [sameI] using c18
        rw [hv, drop_step ha, getI, hs]
        rfl
      · skip
        refine aSkip ?_
        refine aReg ?_
        refine sp pM ?_
        refine sp pAd ?_
        refine sp pMa ?_
        refine oNil ?_
        have hs : sameI a b n = false := by rw [Bool.eq_false_iff]; intro hs; simp_all [sameI]
        refine ⟨i + 1, ⟨by omega, ?_⟩, by show l.length - (i + 1) < l.length - i; omega, weak_sub ⟨rfl, rfl, gInt rfl (by simp), trivial⟩ (by repeat constructor)⟩
        rw [hv, drop_step ha, getI, hs]
        rfl
    · skip
      refine aExit rfl ?_
      refine aSeq ?_
      refine aReg ?_
      refine sp pMa ?_
      refine oNil ?_
      refine aRet ?_
      refine ⟨_, [], _, rfl, .nil, ?_, rfl⟩
      show AV.int 0 = AV.int _
      rw [hv, List.drop_of_length_le (by omega)]
      rfl

/- waymarkref42.Same -/
def ref42_Same_r6_T : Bool × List (List Nat × List Nat) := (true, [([], []), ([], []), ([0, 1], [0, 1]), ([2], [2]), ([], []), ([], []), ([4, 5], [4, 5]), ([6], [6]), ([3, 7], [3, 7])])
def ref42_Same_r6_B : List Nat := [0, 0, 3, 7, 0, 0, 48, 112, 255]
theorem ref42_Same_r6_t : Go.Proofs.YtkgemkadebgeoaaW.PrintLast.rtab .any (Go.Proofs.YtkgemkadebgeoaaW.PrintLast.opsOf Try.f25 6) = ref42_Same_r6_T := by kernel_rfl
theorem ref42_Same_r6_b : Go.Proofs.YtkgemkadebgeoaaW.PrintLast.waitsOk ref42_Same_r6_T.2 ref42_Same_r6_B = true := by kernel_rfl
set_option maxRecDepth 100000 in
set_option maxHeartbeats 400000 in
theorem ref42_Same (l m : List Ent) (hl : l.length ≤ 4000000) (hm : m.length ≤ 4000000) : Triple Try.prog 25 [AV.sl 3 (l.map entC), AV.sl 3 (m.map entC)] [] (fun r h' => r = .v (.bool (decide (l = m))) ∧ h' = []) := by
  refine triple_of Try.func25 rfl (by kernel_rfl) rfl (by simp) ?_
  refine aSeq ?_
  refine aReg ?_
  refine sp pMa ?_
  refine oNil ?_
  refine aSeq ?_
  refine aSeq ?_
  refine aReg ?_
  refine sp pM ?_
  refine sp (by first | exact pLm sl_26 | exact pLs sl_26) ?_
  refine sp pM ?_
  refine sp (by first | exact pLm sl_26 | exact pLs sl_26) ?_
  refine sp pB ?_
  refine oNil ?_
  refine aCondNe rfl (fun c10 => ?_) (fun c10 => ?_)
  · skip
    refine aSeq ?_
    refine aReg ?_
    refine sp pMa ?_
    refine oNil ?_
    refine aRet ?_
    refine ⟨_, [], _, rfl, .nil, ?_, rfl⟩
    show AV.v (.bool false) = _
    have hn : l ≠ m := fun e => by subst e; exact absurd c10 (by simp)
    simp [hn]
  · skip
    refine aSkip ?_
    refine aSeq ?_
    refine aSeq ?_
    have hlm : l.length = m.length := by omega
    refine aReg ?_
    refine sp pMa ?_
    refine oNil ?_
    refine aBlock ?_
    refine aLoopI (α := Nat) (fun i => i ≤ l.length ∧ l.take i = m.take i) (fun i => ([(0, AV.sl 3 (l.map entC)), (1, AV.sl 3 (m.map entC)), (5, .int i)], [])) (fun i => l.length - i) 0 ?_ ?_ ?_
    · skip
      exact ⟨by omega, rfl⟩
    · skip
      exact weak_sub ⟨rfl, rfl, gInt rfl (by simp), trivial⟩ .nil
    · rintro i ⟨hi, hv⟩
      skip
      refine aSeq ?_
      refine aSeq ?_
      refine aReg ?_
      refine sp pM ?_
      refine sp pM ?_
      refine sp (by first | exact pLm sl_26 | exact pLs sl_26 | exact pLv sl_26) ?_
      refine sp pB ?_
      refine oNil ?_
      refine aCondDec rfl (fun c14 => ?_) (fun c14 => ?_)
      · skip
        refine aSkip ?_
        refine aSeq ?_
        refine aBlock ?_
        refine aSeq ?_
        refine aDrawT ref42_Same_r6_t ref42_Same_r6_b [] 9 #[false, false, false, false, false, false, false, false, false] (by kernel_rfl) rfl rfl (fun HT => ?_)
        refine dp HT 0 rfl pM ?_
        refine dp HT 1 rfl pM ?_
        obtain ⟨a, ha⟩ : ∃ a, l[i]? = some a := ⟨_, List.getElem?_eq_getElem (by omega)⟩
        obtain ⟨b, hb⟩ : ∃ b, m[i]? = some b := ⟨_, List.getElem?_eq_getElem (by omega)⟩
        refine dp HT 2 rfl (pIdxS rfl rfl rfl es_26 (by omega) (map_get (f := entC) ha)) ?_
        refine dr HT 3 rfl (by first | exact rSW ty_31 rfl | exact rSA ty_31 | exact rBWa ty_31 | exact rBW ty_31 | exact rBA ty_31 | exact rArA ty_31 (fun _ => rfl)) ?_
        refine dp HT 4 rfl pM ?_
        refine dp HT 5 rfl pM ?_
        refine dp HT 6 rfl (pIdxS rfl rfl rfl es_26 (by omega) (map_get (f := entC) hb)) ?_
        refine dr HT 7 rfl (by first | exact rSW ty_31 rfl | exact rSA ty_31 | exact rBWa ty_31 | exact rBW ty_31 | exact rBA ty_31 | exact rArA ty_31 (fun _ => rfl)) ?_
        refine dp HT 8 rfl (pEqGn ep_31) ?_
        refine dE HT ?_
        clear HT
        refine aCond rfl (fun c25 => ?_) (fun c25 => ?_)
        · skip
          refine aSeq ?_
          refine aReg ?_
          refine sp pMa ?_
          refine oNil ?_
          refine aRet ?_
          refine ⟨_, [], _, rfl, .nil, ?_, rfl⟩
          show AV.v (.bool false) = _
          have hn : l ≠ m := fun e => by
            subst e
            rw [ha] at hb
            cases hb
            simp at c25
          simp [hn]
        · skip
          refine aSkip ?_
          refine aReg ?_
          refine sp pM ?_
          refine sp pAd ?_
          refine sp pMa ?_
          refine oNil ?_
          refine ⟨i + 1, ⟨by omega, ?_⟩, by show l.length - (i + 1) < l.length - i; omega, weak_sub ⟨rfl, rfl, gInt rfl (by simp), trivial⟩ .nil⟩
          rw [take_step ha, take_step hb, hv]
          obtain ⟨a1, a2, a3⟩ := a
          obtain ⟨b1, b2, b3⟩ := b
          simp_all
          omega
      · skip
        refine aExit rfl ?_
        refine aSeq ?_
        refine aReg ?_
        refine sp pMa ?_
        refine oNil ?_
        refine aRet ?_
        refine ⟨_, [], _, rfl, .nil, ?_, rfl⟩
        show AV.v (.bool true) = _
        rw [List.take_of_length_le (by omega), List.take_of_length_le (by omega)] at hv
        simp [hv]

/- waymarkref42.Find -/
def ref42_Find_r5_T : Bool × List (List Nat × List Nat) := (true, [([], []), ([], []), ([0, 1], [0, 1]), ([2], [2]), ([3], [3]), ([], []), ([4, 5], [4, 5]), ([6, 6], [6]), ([7], [7]), ([8, 7], [7, 8]), ([9, 7], [7, 9]), ([10, 7, 7], [7, 10]), ([11], [11]), ([11], [11]), ([12, 13, 11], [11, 12, 13]), ([14, 11], [11, 14]), ([15, 11], [11, 15]), ([16, 11], [11, 16]), ([11], [11]), ([18, 11], [11, 18]), ([19, 11], [11, 19]), ([17, 20, 11], [11, 17, 20]), ([11, 21, 7], [7, 11, 21]), ([7, 22], [7, 22])])
def ref42_Find_r5_B : List Nat := [0, 0, 3, 7, 15, 0, 63, 127, 255, 511, 1023, 2047, 4095, 4095, 16383, 32767, 65535, 131071, 4095, 266239, 790527, 2097151, 4194303, 8388607]
theorem ref42_Find_r5_t : Go.Proofs.YtkgemkadebgeoaaW.PrintLast.rtab .any (Go.Proofs.YtkgemkadebgeoaaW.PrintLast.opsOf Try.f24 5) = ref42_Find_r5_T := by kernel_rfl
theorem ref42_Find_r5_b : Go.Proofs.YtkgemkadebgeoaaW.PrintLast.waitsOk ref42_Find_r5_T.2 ref42_Find_r5_B = true := by kernel_rfl
set_option maxRecDepth 100000 in
set_option maxHeartbeats 400000 in
theorem ref42_Find (l : List Ent) (a : Nat) (hl : l.length ≤ 4000) (ha32 : a < 2 ^ 32) (hok : ∀ e ∈ l, EntOk e) : Triple Try.prog 24 [AV.sl 3 (l.map entC), u32 a] [] (fun r h' => r = .agg (entC (refFind l a ⟨0, 0, 0⟩)) ∧ h' = []) := by
  refine triple_ofR Try.func24 rfl (by kernel_rfl) rfl (by simp) ?_
  refine aSeq ?_
  refine aReg ?_
  refine sq ?_
  refine qAlloc rfl rfl (by decide) ze_31 rfl (fun b4 => ?_)
  refine oNil ?_
  refine aSeq ?_
  refine aReg ?_
  refine sp (pBuild rfl st_31 ze_31 rfl rfl rfl rfl) ?_
  refine sq ?_
  refine qAlloc rfl rfl (by decide) ze_31 rfl (fun b5 => ?_)
  refine sa ?_
  refine oStW rfl rfl rfl rfl (by repeat constructor) ty_31 ?_
  refine oNil ?_
  refine aSeq ?_
  refine aSeq ?_
  refine aReg ?_
  refine sp pMa ?_
  refine oNil ?_
  refine aBlock ?_
  refine aLoopI (α := Nat × Ent) (fun (i, e) => i ≤ l.length ∧ refFind l a ⟨0, 0, 0⟩ = refFind (l.drop i) a e) (fun (i, e) => ([(0, AV.sl 3 (l.map entC)), (1, u32 a), (4, .v (.pointer (some ⟨b4, 0, none⟩))), (5, .v (.pointer (some ⟨b5, 0, none⟩))), (6, .int i)], [.box b5 (entC e), .box b4 (entC ⟨0, 0, 0⟩)])) (fun (i, e) => l.length - i) (0, ⟨0, 0, 0⟩) ?_ ?_ ?_
  · skip
    exact ⟨by omega, rfl⟩
  · skip
    exact weak_sub ⟨rfl, rfl, rfl, rfl, gInt rfl (by simp), trivial⟩ (by repeat constructor)
  · rintro ⟨i, e⟩ ⟨hi, hv⟩
    skip
    refine aSeq ?_
    refine aSeq ?_
    refine aReg ?_
    refine sp pM ?_
    refine sp pM ?_
    refine sp (by first | exact pLm sl_26 | exact pLs sl_26 | exact pLv sl_26) ?_
    refine sp pB ?_
    refine oNil ?_
    refine aCondDec rfl (fun c11 => ?_) (fun c11 => ?_)
    · skip
      refine aSkip ?_
      refine aSeq ?_
      refine aBlock ?_
      refine aSeq ?_
      refine aDrawT ref42_Find_r5_t ref42_Find_r5_b [] 24 #[false, false, false, false, false, false, false, false, false, false, false, false, false, false, false, false, false, false, false, false, false, false, false, false] (by kernel_rfl) rfl rfl (fun HT => ?_)
      refine dp HT 0 rfl pM ?_
      refine dp HT 1 rfl pM ?_
      obtain ⟨x, hx⟩ : ∃ x, l[i]? = some x := ⟨_, List.getElem?_eq_getElem (by omega)⟩
      have hxm := List.mem_of_getElem? hx
      refine dp HT 2 rfl (pIdxS rfl rfl rfl es_26 (by omega) (map_get (f := entC) hx)) ?_
      refine dp HT 3 rfl (by first | exact pFb fd_31_0 | exact pFs fd_31_0) ?_
      refine dr HT 4 rfl (by first | exact rSW ty_29 rfl | exact rSA ty_29 | exact rBWa ty_29 | exact rBW ty_29 | exact rBA ty_29 | exact rArA ty_29 (fun _ => rfl)) ?_
      refine dp HT 5 rfl pM ?_
      refine dGo ?_
      refine e1 HT 6 rfl ?_
      refine qCallV rfl rfl (by decide) rfl rfl (lents_refl _) (ref41_Within x.b x.n a (hok x hxm).1 ha32 (hok x hxm).2.1) ?_
      refine ef HT 7 rfl pM ?_
      refine eSplit 21 rfl (fun c21 => ?_) (fun c21 => ?_)
      · skip
        refine epG HT 8 rfl (by first | exact pFb fd_31_1 | exact pFs fd_31_1) ?_
        refine erG HT 9 rfl (by first | exact rS1 ty_3 | exact rB1 ty_3 | exact rAr ty_3 | exact rArL ty_3 | exact rArR ty_3 (by first | rfl | exact arrF_len one_len)) ?_
        refine epG HT 10 rfl pB ?_
        refine epG HT 11 rfl pM ?_
        refine eSplitEq 25 rfl (fun c25 => ?_) (fun c25 => ?_)
        · skip
          refine eS HT 12 rfl ?_
          refine eS HT 13 rfl ?_
          refine eS HT 14 rfl ?_
          refine eS HT 15 rfl ?_
          refine eS HT 16 rfl ?_
          refine eS HT 17 rfl ?_
          refine eS HT 18 rfl ?_
          refine eS HT 19 rfl ?_
          refine eS HT 20 rfl ?_
          refine eS HT 21 rfl ?_
          refine efG HT 22 rfl pK ?_
          refine ef HT 23 rfl pK ?_
          refine eE HT ?_
          clear HT
          refine aCondT rfl ?_
          refine aReg ?_
          refine sp pM ?_
          refine sp pM ?_
          refine sp (pIdxS rfl rfl rfl es_26 (by omega) (map_get (f := entC) hx)) ?_
          refine sr (by first | exact rSW ty_31 rfl | exact rSA ty_31 | exact rBWa ty_31 | exact rBW ty_31 | exact rBA ty_31 | exact rArA ty_31 (fun _ => rfl)) ?_
          refine sa ?_
          refine oStW rfl rfl rfl rfl (by repeat constructor) ty_31 ?_
          refine oNil ?_
          refine aReg ?_
          refine sp pM ?_
          refine sp pAd ?_
          refine sp pMa ?_
          refine oNil ?_
          have hst : refFind (l.drop i) a e = refFind (l.drop (i + 1)) a (if within x a && (e.tv == 0 || decide (e.n < x.n)) then x else e) := by rw [drop_step hx]; rfl
          have hw : within x a = (x.b / 2 ^ (32 - x.n) == a / 2 ^ (32 - x.n)) := rfl
          first
            | (refine ⟨(i + 1, x), ⟨by omega, ?_⟩, by show l.length - (i + 1) < l.length - i; omega, weak_sub ⟨rfl, rfl, rfl, rfl, gInt rfl (by simp), trivial⟩ (by repeat constructor)⟩
               rw [hv, hst, if_pos (by rw [hw, Bool.and_eq_true, Bool.or_eq_true, beq_iff_eq (a := e.tv), decide_eq_true_iff]; exact ⟨by assumption, by omega⟩)])
            | (refine ⟨(i + 1, e), ⟨by omega, ?_⟩, by show l.length - (i + 1) < l.length - i; omega, weak_sub ⟨rfl, rfl, rfl, rfl, gInt rfl (by simp), trivial⟩ (by repeat constructor)⟩
               rw [hv, hst, if_neg (by rw [hw, Bool.and_eq_true, Bool.or_eq_true, beq_iff_eq (a := e.tv), decide_eq_true_iff]; rintro ⟨k1, k2⟩; first | omega | (rw [c21] at k1; cases k1))])
        · skip
          refine epG HT 12 rfl pM ?_
          refine epG HT 13 rfl pM ?_
          refine epG HT 14 rfl (pIdxS rfl rfl rfl es_26 (by omega) (map_get (f := entC) hx)) ?_
          refine epG HT 15 rfl (by first | exact pFb fd_31_0 | exact pFs fd_31_0) ?_
          refine epG HT 16 rfl (by first | exact pFb fd_29_1 | exact pFs fd_29_1) ?_
          refine erG HT 17 rfl (by first | exact rS1 ty_3 | exact rB1 ty_3 | exact rAr ty_3 | exact rArL ty_3 | exact rArR ty_3 (by first | rfl | exact arrF_len one_len)) ?_
          refine epG HT 18 rfl (by first | exact pFb fd_31_0 | exact pFs fd_31_0) ?_
          refine epG HT 19 rfl (by first | exact pFb fd_29_1 | exact pFs fd_29_1) ?_
          refine erG HT 20 rfl (by first | exact rS1 ty_3 | exact rB1 ty_3 | exact rAr ty_3 | exact rArL ty_3 | exact rArR ty_3 (by first | rfl | exact arrF_len one_len)) ?_
          refine epG HT 21 rfl pB ?_
          refine epG HT 22 rfl pK ?_
          refine ef HT 23 rfl pK ?_
          refine eE HT ?_
          clear HT
          refine aCondDec rfl (fun c37 => ?_) (fun c37 => ?_)
          · skip
            refine aReg ?_
            refine sp pM ?_
            refine sp pM ?_
            refine sp (pIdxS rfl rfl rfl es_26 (by omega) (map_get (f := entC) hx)) ?_
            refine sr (by first | exact rSW ty_31 rfl | exact rSA ty_31 | exact rBWa ty_31 | exact rBW ty_31 | exact rBA ty_31 | exact rArA ty_31 (fun _ => rfl)) ?_
            refine sa ?_
            refine oStW rfl rfl rfl rfl (by repeat constructor) ty_31 ?_
            refine oNil ?_
            refine aReg ?_
            refine sp pM ?_
            refine sp pAd ?_
            refine sp pMa ?_
            refine oNil ?_
            have hst : refFind (l.drop i) a e = refFind (l.drop (i + 1)) a (if within x a && (e.tv == 0 || decide (e.n < x.n)) then x else e) := by rw [drop_step hx]; rfl
            have hw : within x a = (x.b / 2 ^ (32 - x.n) == a / 2 ^ (32 - x.n)) := rfl
            first
              | (refine ⟨(i + 1, x), ⟨by omega, ?_⟩, by show l.length - (i + 1) < l.length - i; omega, weak_sub ⟨rfl, rfl, rfl, rfl, gInt rfl (by simp), trivial⟩ (by repeat constructor)⟩
                 rw [hv, hst, if_pos (by rw [hw, Bool.and_eq_true, Bool.or_eq_true, beq_iff_eq (a := e.tv), decide_eq_true_iff]; exact ⟨by assumption, by omega⟩)])
              | (refine ⟨(i + 1, e), ⟨by omega, ?_⟩, by show l.length - (i + 1) < l.length - i; omega, weak_sub ⟨rfl, rfl, rfl, rfl, gInt rfl (by simp), trivial⟩ (by repeat constructor)⟩
                 rw [hv, hst, if_neg (by rw [hw, Bool.and_eq_true, Bool.or_eq_true, beq_iff_eq (a := e.tv), decide_eq_true_iff]; rintro ⟨k1, k2⟩; first | omega | (rw [c21] at k1; cases k1))])
          · skip
            refine aSkip ?_
            refine aReg ?_
            refine sp pM ?_
            refine sp pAd ?_
            refine sp pMa ?_
            refine oNil ?_
            have hst : refFind (l.drop i) a e = refFind (l.drop (i + 1)) a (if within x a && (e.tv == 0 || decide (e.n < x.n)) then x else e) := by rw [drop_step hx]; rfl
            have hw : within x a = (x.b / 2 ^ (32 - x.n) == a / 2 ^ (32 - x.n)) := rfl
            first
              | (refine ⟨(i + 1, x), ⟨by omega, ?_⟩, by show l.length - (i + 1) < l.length - i; omega, weak_sub ⟨rfl, rfl, rfl, rfl, gInt rfl (by simp), trivial⟩ (by repeat constructor)⟩
                 rw [hv, hst, if_pos (by rw [hw, Bool.and_eq_true, Bool.or_eq_true, beq_iff_eq (a := e.tv), decide_eq_true_iff]; exact ⟨by assumption, by omega⟩)])
              | (refine ⟨(i + 1, e), ⟨by omega, ?_⟩, by show l.length - (i + 1) < l.length - i; omega, weak_sub ⟨rfl, rfl, rfl, rfl, gInt rfl (by simp), trivial⟩ (by repeat constructor)⟩
                 rw [hv, hst, if_neg (by rw [hw, Bool.and_eq_true, Bool.or_eq_true, beq_iff_eq (a := e.tv), decide_eq_true_iff]; rintro ⟨k1, k2⟩; first | omega | (rw [c21] at k1; cases k1))])
      · skip
        refine eS HT 8 rfl ?_
        refine eS HT 9 rfl ?_
        refine eS HT 10 rfl ?_
        refine eS HT 11 rfl ?_
        refine eS HT 12 rfl ?_
        refine eS HT 13 rfl ?_
        refine eS HT 14 rfl ?_
        refine eS HT 15 rfl ?_
        refine eS HT 16 rfl ?_
        refine eS HT 17 rfl ?_
        refine eS HT 18 rfl ?_
        refine eS HT 19 rfl ?_
        refine eS HT 20 rfl ?_
        refine eS HT 21 rfl ?_
        refine eS HT 22 rfl ?_
        refine ef HT 23 rfl pK ?_
        refine eE HT ?_
        clear HT
        refine aCondF rfl ?_
        refine aSkip ?_
        refine aReg ?_
        refine sp pM ?_
        refine sp pAd ?_
        refine sp pMa ?_
        refine oNil ?_
        have hst : refFind (l.drop i) a e = refFind (l.drop (i + 1)) a (if within x a && (e.tv == 0 || decide (e.n < x.n)) then x else e) := by rw [drop_step hx]; rfl
        have hw : within x a = (x.b / 2 ^ (32 - x.n) == a / 2 ^ (32 - x.n)) := rfl
        first
          | (refine ⟨(i + 1, x), ⟨by omega, ?_⟩, by show l.length - (i + 1) < l.length - i; omega, weak_sub ⟨rfl, rfl, rfl, rfl, gInt rfl (by simp), trivial⟩ (by repeat constructor)⟩
             rw [hv, hst, if_pos (by rw [hw, Bool.and_eq_true, Bool.or_eq_true, beq_iff_eq (a := e.tv), decide_eq_true_iff]; exact ⟨by assumption, by omega⟩)])
          | (refine ⟨(i + 1, e), ⟨by omega, ?_⟩, by show l.length - (i + 1) < l.length - i; omega, weak_sub ⟨rfl, rfl, rfl, rfl, gInt rfl (by simp), trivial⟩ (by repeat constructor)⟩
             rw [hv, hst, if_neg (by rw [hw, Bool.and_eq_true, Bool.or_eq_true, beq_iff_eq (a := e.tv), decide_eq_true_iff]; rintro ⟨k1, k2⟩; first | omega | (rw [c21] at k1; cases k1))])
    · skip
      refine aExit rfl ?_
      refine aSeq ?_
      refine aReg ?_
      refine sr (by first | exact rSW ty_31 rfl | exact rSA ty_31 | exact rBWa ty_31 | exact rBW ty_31 | exact rBA ty_31 | exact rArA ty_31 (fun _ => rfl)) ?_
      refine sa ?_
      refine oStW rfl rfl rfl rfl (by repeat constructor) ty_31 ?_
      refine oNil ?_
      refine aRet ?_
      refine ⟨_, [], _, .cons (.cellA rfl List.mem_cons_self ty_31) .nil, .nil, ?_, rfl⟩
      show AV.agg (entC e) = AV.agg _
      rw [hv, show l.drop i = [] from List.drop_of_length_le (by omega)]
      rfl

/- waymarkref42.Put -/
def ref42_Put_r6_T : Bool × List (List Nat × List Nat) := (true, [([], []), ([0], [0]), ([1], [1]), ([2], [2]), ([2], [2]), ([3, 4, 2], [2, 3, 4]), ([5, 2], [2, 5]), ([6, 2], [2, 6]), ([2], [2]), ([8, 2], [2, 8]), ([7, 9, 2, 2], [2, 7, 9]), ([10, 2], [2, 10]), ([2, 11], [2, 11])])
def ref42_Put_r6_B : List Nat := [0, 1, 3, 7, 7, 31, 63, 127, 7, 263, 1023, 2047, 4095]
theorem ref42_Put_r6_t : Go.Proofs.YtkgemkadebgeoaaW.PrintLast.rtab .any (Go.Proofs.YtkgemkadebgeoaaW.PrintLast.opsOf Try.f21 6) = ref42_Put_r6_T := by kernel_rfl
theorem ref42_Put_r6_b : Go.Proofs.YtkgemkadebgeoaaW.PrintLast.waitsOk ref42_Put_r6_T.2 ref42_Put_r6_B = true := by kernel_rfl
def ref42_Put_r9_T : Bool × List (List Nat × List Nat) := (true, [([], []), ([], []), ([0, 1], [0, 1]), ([2], [2]), ([3], [3]), ([], []), ([5], [5]), ([4, 6], [4, 6])])
def ref42_Put_r9_B : List Nat := [0, 0, 3, 7, 15, 0, 32, 127]
theorem ref42_Put_r9_t : Go.Proofs.YtkgemkadebgeoaaW.PrintLast.rtab .any (Go.Proofs.YtkgemkadebgeoaaW.PrintLast.opsOf Try.f21 9) = ref42_Put_r9_T := by kernel_rfl
theorem ref42_Put_r9_b : Go.Proofs.YtkgemkadebgeoaaW.PrintLast.waitsOk ref42_Put_r9_T.2 ref42_Put_r9_B = true := by kernel_rfl
set_option maxRecDepth 100000 in
set_option maxHeartbeats 1000000 in
theorem ref42_Put (l : List Ent) (b : Nat) (n tv : Int) (hl : l.length ≤ 4000) (hn : tv ≠ 0 → 0 ≤ n) : Triple Try.prog 21 [AV.sl 3 (l.map entC), .agg [u32 b, .int n, .int tv]] [] (fun r h' => r = .sl 3 ((putI (tv == 0) l b n tv).map entC) ∧ h' = []) := by
  refine triple_of Try.func21 rfl (by kernel_rfl) rfl (by simp) ?_
  refine aSeq ?_
  refine aReg ?_
  refine sq ?_
  refine qBox rfl rfl (by decide) rfl rfl (fun b3 => ?_)
  refine sp pMa ?_
  refine oNil ?_
  refine aSeq ?_
  refine aReg ?_
  refine sq ?_
  refine qLit (l := []) rfl rfl (by decide) us_26 ty_31 ze_31 rfl (by decide) (by decide) rfl rfl rfl (fun b8 => ?_)
  refine sp pMa ?_
  refine oNil ?_
  refine aSeq ?_
  refine aReg ?_
  refine sp (pFb fd_31_1) ?_
  refine sr (rB1 ty_3) ?_
  refine sp pB ?_
  refine sp pMa ?_
  refine oNil ?_
  refine aSeq ?_
  refine aSeq ?_
  refine aReg ?_
  refine sp pMa ?_
  refine oNil ?_
  refine aBlock ?_
  refine aLoopI (α := Nat × Bool × List Ent × Option Nat × Nat) (fun (i, d, out, g, c) => i ≤ l.length ∧ putI (tv == 0) l b n tv = out ++ putI d (l.drop i) b n tv ∧ (d = false → tv ≠ 0) ∧ out.length ≤ 2 * i) (fun (i, d, out, g, c) => ([(0, AV.sl 3 (l.map entC)), (3, .v (.pointer (some ⟨b3, 0, none⟩))), (5, .v (slV g out.length c)), (6, .v (.bool d)), (7, .int i)], [.sl g c 31 3 (out.map entC), .box b3 [u32 b, .int n, .int tv]])) (fun (i, d, out, g, c) => l.length - i) (0, tv == 0, [], some b8, 0) ?_ ?_ ?_
  · skip
    exact ⟨by omega, rfl, fun h => by simpa using h, by simp⟩
  · skip
    exact weak_sub ⟨rfl, rfl, rfl, rfl, gInt rfl (by simp), trivial⟩ (by repeat constructor)
  · rintro ⟨i, d, out, g, c⟩ ⟨hi, hv, hd, hol⟩
    skip
    refine aSeq ?_
    refine aSeq ?_
    refine aReg ?_
    refine sp pM ?_
    refine sp pM ?_
    refine sp (by first | exact pLm sl_26 | exact pLs sl_26 | exact pLv sl_26) ?_
    refine sp pB ?_
    refine oNil ?_
    refine aCondDec rfl (fun c15 => ?_) (fun c15 => ?_)
    · skip
      refine aSkip ?_
      refine aSeq ?_
      refine aBlock ?_
      refine aSeq ?_
      refine aSeq ?_
      refine aDrawT ref42_Put_r6_t ref42_Put_r6_b [] 13 #[false, false, false, false, false, false, false, false, false, false, false, false, false] (by kernel_rfl) rfl rfl (fun HT => ?_)
      refine dp HT 0 rfl pM ?_
      refine dp HT 1 rfl pNo ?_
      refine dp HT 2 rfl pM ?_
      refine dSplitNot 20 rfl (fun c20 => ?_) (fun c20 => ?_)
      · skip
        refine dpG HT 3 rfl pM ?_
        refine dpG HT 4 rfl pM ?_
        obtain ⟨x, hx⟩ : ∃ x, l[i]? = some x := ⟨_, List.getElem?_eq_getElem (by omega)⟩
        refine dpG HT 5 rfl (pIdxS rfl rfl rfl es_26 (by omega) (map_get (f := entC) hx)) ?_
        refine dpG HT 6 rfl (by first | exact pFb fd_31_0 | exact pFs fd_31_0) ?_
        refine drG HT 7 rfl (by first | exact rSW ty_29 rfl | exact rSA ty_29 | exact rBWa ty_29 | exact rBW ty_29 | exact rBA ty_29 | exact rArA ty_29 (fun _ => rfl)) ?_
        refine dpG HT 8 rfl (by first | exact pFb fd_31_0 | exact pFs fd_31_0) ?_
        refine drG HT 9 rfl (by first | exact rSW ty_29 rfl | exact rSA ty_29 | exact rBWa ty_29 | exact rBW ty_29 | exact rBA ty_29 | exact rArA ty_29 (fun _ => rfl)) ?_
        refine dGo ?_
        refine e1G HT 10 rfl ?_
        refine qCallV rfl rfl (by decide) rfl rfl (lents_refl _) (ref42_ahead x b n) ?_
        refine efG HT 11 rfl pNo ?_
        refine ef HT 12 rfl pK ?_
        refine eE HT ?_
        clear HT
        refine aCondNot rfl (fun c30 => ?_) (fun c30 => ?_)
        · skip
          refine aSeq ?_
          refine aReg ?_
          refine sp pM ?_
          refine sr (by first | exact rSW ty_31 rfl | exact rSA ty_31 | exact rBWa ty_31 | exact rBW ty_31 | exact rBA ty_31 | exact rArA ty_31 (fun _ => rfl)) ?_
          refine sq ?_
          refine qLit (l := [_]) rfl rfl (by decide) us_26 ty_31 ze_31 rfl (by decide) (by decide) rfl rfl rfl (fun b33 => ?_)
          refine sa ?_
          refine oApp rfl rfl (by decide) rfl (by repeat constructor) (by simp) (srcOwn rfl (by repeat constructor) (by first | rfl | simp)) el_26 sl_26 (by intro z hz; rcases List.mem_cons.1 hz with rfl | hz; rfl; cases hz) (by first | (simp; done) | (simp; omega)) (by first | (simp; done) | (simp; omega)) (fun g34 k34 => ?_)
          refine sp pMa ?_
          refine oNil ?_
          refine aReg ?_
          refine sp pMa ?_
          refine oNil ?_
          refine aSeq ?_
          refine aDrawT ref42_Put_r9_t ref42_Put_r9_b [] 8 #[false, false, false, false, false, false, false, false] (by kernel_rfl) rfl rfl (fun HT => ?_)
          refine dp HT 0 rfl pM ?_
          refine dp HT 1 rfl pM ?_
          first | have _h := hx | obtain ⟨x, hx⟩ : ∃ x, l[i]? = some x := ⟨_, List.getElem?_eq_getElem (by omega)⟩
          refine dp HT 2 rfl (pIdxS rfl rfl rfl es_26 (by omega) (map_get (f := entC) hx)) ?_
          refine dp HT 3 rfl (by first | exact pFb fd_31_0 | exact pFs fd_31_0) ?_
          refine dr HT 4 rfl (by first | exact rSW ty_29 rfl | exact rSA ty_29 | exact rBWa ty_29 | exact rBW ty_29 | exact rBA ty_29 | exact rArA ty_29 (fun _ => rfl)) ?_
          refine dp HT 5 rfl (by first | exact pFb fd_31_0 | exact pFs fd_31_0) ?_
          refine dr HT 6 rfl (by first | exact rSW ty_29 rfl | exact rSA ty_29 | exact rBWa ty_29 | exact rBW ty_29 | exact rBA ty_29 | exact rArA ty_29 (fun _ => rfl)) ?_
          refine dp HT 7 rfl (pEqAn eq_29) ?_
          refine dE HT ?_
          clear HT
          refine aCond rfl (fun c42 => ?_) (fun c42 => ?_)
          · skip
            refine aReg ?_
            refine sp pM ?_
            refine sp pM ?_
            refine sp pM ?_
            refine sp (pIdxS rfl rfl rfl es_26 (by omega) (map_get (f := entC) hx)) ?_
            refine sr (by first | exact rSW ty_31 rfl | exact rSA ty_31 | exact rBWa ty_31 | exact rBW ty_31 | exact rBA ty_31 | exact rArA ty_31 (fun _ => rfl)) ?_
            refine sq ?_
            refine qLit (l := [_]) rfl rfl (by decide) us_26 ty_31 ze_31 rfl (by decide) (by decide) rfl rfl rfl (fun b48 => ?_)
            refine sa ?_
            refine oApp rfl rfl (by decide) rfl (by repeat constructor) (by simp) (srcOwn rfl (by repeat constructor) (by first | rfl | simp)) el_26 sl_26 (by intro z hz; rcases List.mem_cons.1 hz with rfl | hz; rfl; cases hz) (by first | (simp; done) | (simp; omega)) (by first | (simp; done) | (simp; omega)) (fun g49 k49 => ?_)
            refine sp pMa ?_
            refine oNil ?_
            refine aReg ?_
            refine sp pM ?_
            refine sp pAd ?_
            refine sp pMa ?_
            refine oNil ?_
            have hst : putI d (l.drop i) b n tv = (if !d && !aheadI x b n then [⟨b, n.toNat, tv⟩] else []) ++ ((if sameI x b n then [] else [x]) ++ putI (d || !aheadI x b n) (l.drop (i + 1)) b n tv) := by rw [drop_step hx]; rfl
            rw [hst] at hv
            clear hst
            first
              | (have hs : sameI x b n = false := by cases h : sameI x b n <;> first | rfl | (exfalso; simp [sameI] at h c42; omega)
                 have hn0 := hn (hd c20)
                 have e1 : entC ⟨b, n.toNat, tv⟩ = [u32 b, .int n, .int tv] := by simp [entC, Int.toNat_of_nonneg hn0]
                 refine ⟨(i + 1, true, out ++ [⟨b, n.toNat, tv⟩] ++ [x], g49, k49), ⟨by omega, ?_, ?_, ?_⟩, by show l.length - (i + 1) < l.length - i; omega, ?_⟩
                 · rw [hv, hs, c20, c30]; simp
                 · intro h; cases h
                 · first | (show out.length ≤ 2 * (i + 1); omega) | (simp only [List.length_append, List.length_cons, List.length_nil]; omega)
                 · try simp only [List.map_append, List.map_cons, List.map_nil, List.length_append, List.length_map, List.length_cons, List.length_nil, e1]
                   exact weak_sub ⟨rfl, rfl, rfl, gAv rfl (by first | rfl | (rw [c20])), gInt rfl (by simp), trivial⟩ (by repeat constructor))
              | (have hs : sameI x b n = true := by cases h : sameI x b n <;> first | rfl | (exfalso; simp [sameI] at h c42; omega)
                 have hn0 := hn (hd c20)
                 have e1 : entC ⟨b, n.toNat, tv⟩ = [u32 b, .int n, .int tv] := by simp [entC, Int.toNat_of_nonneg hn0]
                 refine ⟨(i + 1, true, out ++ [⟨b, n.toNat, tv⟩], g34, k34), ⟨by omega, ?_, ?_, ?_⟩, by show l.length - (i + 1) < l.length - i; omega, ?_⟩
                 · rw [hv, hs, c20, c30]; simp
                 · intro h; cases h
                 · first | (show out.length ≤ 2 * (i + 1); omega) | (simp only [List.length_append, List.length_cons, List.length_nil]; omega)
                 · try simp only [List.map_append, List.map_cons, List.map_nil, List.length_append, List.length_map, List.length_cons, List.length_nil, e1]
                   exact weak_sub ⟨rfl, rfl, rfl, gAv rfl (by first | rfl | (rw [c20])), gInt rfl (by simp), trivial⟩ (by repeat constructor))
              | (have hs : sameI x b n = false := by cases h : sameI x b n <;> first | rfl | (exfalso; simp [sameI] at h c42; omega)
                 refine ⟨(i + 1, d, out ++ [x], g49, k49), ⟨by omega, ?_, ?_, ?_⟩, by show l.length - (i + 1) < l.length - i; omega, ?_⟩
                 · rw [hv, hs]; first | (rw [c20]; simp; done) | (have hd2 : d = false := c20; rw [hd2, c30]; simp; done)
                 · exact hd
                 · first | (show out.length ≤ 2 * (i + 1); omega) | (simp only [List.length_append, List.length_cons, List.length_nil]; omega)
                 · try simp only [List.map_append, List.map_cons, List.map_nil, List.length_append, List.length_map, List.length_cons, List.length_nil]
                   exact weak_sub ⟨rfl, rfl, rfl, gAv rfl (by first | rfl | (rw [c20])), gInt rfl (by simp), trivial⟩ (by repeat constructor))
              | (have hs : sameI x b n = true := by cases h : sameI x b n <;> first | rfl | (exfalso; simp [sameI] at h c42; omega)
                 refine ⟨(i + 1, d, out, g, c), ⟨by omega, ?_, ?_, ?_⟩, by show l.length - (i + 1) < l.length - i; omega, ?_⟩
                 · rw [hv, hs]; first | (rw [c20]; simp; done) | (have hd2 : d = false := c20; rw [hd2, c30]; simp; done)
                 · exact hd
                 · first | (show out.length ≤ 2 * (i + 1); omega) | (simp only [List.length_append, List.length_cons, List.length_nil]; omega)
                 · try simp only [List.map_append, List.map_cons, List.map_nil, List.length_append, List.length_map, List.length_cons, List.length_nil]
                   exact weak_sub ⟨rfl, rfl, rfl, gAv rfl (by first | rfl | (rw [c20])), gInt rfl (by simp), trivial⟩ (by repeat constructor))
          · skip
            refine aSkip ?_
            refine aReg ?_
            refine sp pM ?_
            refine sp pAd ?_
            refine sp pMa ?_
            refine oNil ?_
            have hst : putI d (l.drop i) b n tv = (if !d && !aheadI x b n then [⟨b, n.toNat, tv⟩] else []) ++ ((if sameI x b n then [] else [x]) ++ putI (d || !aheadI x b n) (l.drop (i + 1)) b n tv) := by rw [drop_step hx]; rfl
            rw [hst] at hv
            clear hst
            first
              | (have hs : sameI x b n = false := by cases h : sameI x b n <;> first | rfl | (exfalso; simp [sameI] at h c42; omega)
                 have hn0 := hn (hd c20)
                 have e1 : entC ⟨b, n.toNat, tv⟩ = [u32 b, .int n, .int tv] := by simp [entC, Int.toNat_of_nonneg hn0]
                 refine ⟨(i + 1, true, out ++ [⟨b, n.toNat, tv⟩] ++ [x], g49, k49), ⟨by omega, ?_, ?_, ?_⟩, by show l.length - (i + 1) < l.length - i; omega, ?_⟩
                 · rw [hv, hs, c20, c30]; simp
                 · intro h; cases h
                 · first | (show out.length ≤ 2 * (i + 1); omega) | (simp only [List.length_append, List.length_cons, List.length_nil]; omega)
                 · try simp only [List.map_append, List.map_cons, List.map_nil, List.length_append, List.length_map, List.length_cons, List.length_nil, e1]
                   exact weak_sub ⟨rfl, rfl, rfl, gAv rfl (by first | rfl | (rw [c20])), gInt rfl (by simp), trivial⟩ (by repeat constructor))
              | (have hs : sameI x b n = true := by cases h : sameI x b n <;> first | rfl | (exfalso; simp [sameI] at h c42; omega)
                 have hn0 := hn (hd c20)
                 have e1 : entC ⟨b, n.toNat, tv⟩ = [u32 b, .int n, .int tv] := by simp [entC, Int.toNat_of_nonneg hn0]
                 refine ⟨(i + 1, true, out ++ [⟨b, n.toNat, tv⟩], g34, k34), ⟨by omega, ?_, ?_, ?_⟩, by show l.length - (i + 1) < l.length - i; omega, ?_⟩
                 · rw [hv, hs, c20, c30]; simp
                 · intro h; cases h
                 · first | (show out.length ≤ 2 * (i + 1); omega) | (simp only [List.length_append, List.length_cons, List.length_nil]; omega)
                 · try simp only [List.map_append, List.map_cons, List.map_nil, List.length_append, List.length_map, List.length_cons, List.length_nil, e1]
                   exact weak_sub ⟨rfl, rfl, rfl, gAv rfl (by first | rfl | (rw [c20])), gInt rfl (by simp), trivial⟩ (by repeat constructor))
              | (have hs : sameI x b n = false := by cases h : sameI x b n <;> first | rfl | (exfalso; simp [sameI] at h c42; omega)
                 refine ⟨(i + 1, d, out ++ [x], g49, k49), ⟨by omega, ?_, ?_, ?_⟩, by show l.length - (i + 1) < l.length - i; omega, ?_⟩
                 · rw [hv, hs]; first | (rw [c20]; simp; done) | (have hd2 : d = false := c20; rw [hd2, c30]; simp; done)
                 · exact hd
                 · first | (show out.length ≤ 2 * (i + 1); omega) | (simp only [List.length_append, List.length_cons, List.length_nil]; omega)
                 · try simp only [List.map_append, List.map_cons, List.map_nil, List.length_append, List.length_map, List.length_cons, List.length_nil]
                   exact weak_sub ⟨rfl, rfl, rfl, gAv rfl (by first | rfl | (rw [c20])), gInt rfl (by simp), trivial⟩ (by repeat constructor))
              | (have hs : sameI x b n = true := by cases h : sameI x b n <;> first | rfl | (exfalso; simp [sameI] at h c42; omega)
                 refine ⟨(i + 1, d, out, g, c), ⟨by omega, ?_, ?_, ?_⟩, by show l.length - (i + 1) < l.length - i; omega, ?_⟩
                 · rw [hv, hs]; first | (rw [c20]; simp; done) | (have hd2 : d = false := c20; rw [hd2, c30]; simp; done)
                 · exact hd
                 · first | (show out.length ≤ 2 * (i + 1); omega) | (simp only [List.length_append, List.length_cons, List.length_nil]; omega)
                 · try simp only [List.map_append, List.map_cons, List.map_nil, List.length_append, List.length_map, List.length_cons, List.length_nil]
                   exact weak_sub ⟨rfl, rfl, rfl, gAv rfl (by first | rfl | (rw [c20])), gInt rfl (by simp), trivial⟩ (by repeat constructor))
        · skip
          refine aSkip ?_
          refine aSeq ?_
          refine aDrawT ref42_Put_r9_t ref42_Put_r9_b [] 8 #[false, false, false, false, false, false, false, false] (by kernel_rfl) rfl rfl (fun HT => ?_)
          refine dp HT 0 rfl pM ?_
          refine dp HT 1 rfl pM ?_
          first | have _h := hx | obtain ⟨x, hx⟩ : ∃ x, l[i]? = some x := ⟨_, List.getElem?_eq_getElem (by omega)⟩
          refine dp HT 2 rfl (pIdxS rfl rfl rfl es_26 (by omega) (map_get (f := entC) hx)) ?_
          refine dp HT 3 rfl (by first | exact pFb fd_31_0 | exact pFs fd_31_0) ?_
          refine dr HT 4 rfl (by first | exact rSW ty_29 rfl | exact rSA ty_29 | exact rBWa ty_29 | exact rBW ty_29 | exact rBA ty_29 | exact rArA ty_29 (fun _ => rfl)) ?_
          refine dp HT 5 rfl (by first | exact pFb fd_31_0 | exact pFs fd_31_0) ?_
          refine dr HT 6 rfl (by first | exact rSW ty_29 rfl | exact rSA ty_29 | exact rBWa ty_29 | exact rBW ty_29 | exact rBA ty_29 | exact rArA ty_29 (fun _ => rfl)) ?_
          refine dp HT 7 rfl (pEqAn eq_29) ?_
          refine dE HT ?_
          clear HT
          refine aCond rfl (fun c42 => ?_) (fun c42 => ?_)
          · skip
            refine aReg ?_
            refine sp pM ?_
            refine sp pM ?_
            refine sp pM ?_
            refine sp (pIdxS rfl rfl rfl es_26 (by omega) (map_get (f := entC) hx)) ?_
            refine sr (by first | exact rSW ty_31 rfl | exact rSA ty_31 | exact rBWa ty_31 | exact rBW ty_31 | exact rBA ty_31 | exact rArA ty_31 (fun _ => rfl)) ?_
            refine sq ?_
            refine qLit (l := [_]) rfl rfl (by decide) us_26 ty_31 ze_31 rfl (by decide) (by decide) rfl rfl rfl (fun b48 => ?_)
            refine sa ?_
            refine oApp rfl rfl (by decide) rfl (by repeat constructor) (by simp) (srcOwn rfl (by repeat constructor) (by first | rfl | simp)) el_26 sl_26 (by intro z hz; rcases List.mem_cons.1 hz with rfl | hz; rfl; cases hz) (by first | (simp; done) | (simp; omega)) (by first | (simp; done) | (simp; omega)) (fun g49 k49 => ?_)
            refine sp pMa ?_
            refine oNil ?_
            refine aReg ?_
            refine sp pM ?_
            refine sp pAd ?_
            refine sp pMa ?_
            refine oNil ?_
            have hst : putI d (l.drop i) b n tv = (if !d && !aheadI x b n then [⟨b, n.toNat, tv⟩] else []) ++ ((if sameI x b n then [] else [x]) ++ putI (d || !aheadI x b n) (l.drop (i + 1)) b n tv) := by rw [drop_step hx]; rfl
            rw [hst] at hv
            clear hst
            first
              | (have hs : sameI x b n = false := by cases h : sameI x b n <;> first | rfl | (exfalso; simp [sameI] at h c42; omega)
                 have hn0 := hn (hd c20)
                 have e1 : entC ⟨b, n.toNat, tv⟩ = [u32 b, .int n, .int tv] := by simp [entC, Int.toNat_of_nonneg hn0]
                 refine ⟨(i + 1, true, out ++ [⟨b, n.toNat, tv⟩] ++ [x], g49, k49), ⟨by omega, ?_, ?_, ?_⟩, by show l.length - (i + 1) < l.length - i; omega, ?_⟩
                 · rw [hv, hs, c20, c30]; simp
                 · intro h; cases h
                 · first | (show out.length ≤ 2 * (i + 1); omega) | (simp only [List.length_append, List.length_cons, List.length_nil]; omega)
                 · try simp only [List.map_append, List.map_cons, List.map_nil, List.length_append, List.length_map, List.length_cons, List.length_nil, e1]
                   exact weak_sub ⟨rfl, rfl, rfl, gAv rfl (by first | rfl | (rw [c20])), gInt rfl (by simp), trivial⟩ (by repeat constructor))
              | (have hs : sameI x b n = true := by cases h : sameI x b n <;> first | rfl | (exfalso; simp [sameI] at h c42; omega)
                 have hn0 := hn (hd c20)
                 have e1 : entC ⟨b, n.toNat, tv⟩ = [u32 b, .int n, .int tv] := by simp [entC, Int.toNat_of_nonneg hn0]
                 refine ⟨(i + 1, true, out ++ [⟨b, n.toNat, tv⟩], g34, k34), ⟨by omega, ?_, ?_, ?_⟩, by show l.length - (i + 1) < l.length - i; omega, ?_⟩
                 · rw [hv, hs, c20, c30]; simp
                 · intro h; cases h
                 · first | (show out.length ≤ 2 * (i + 1); omega) | (simp only [List.length_append, List.length_cons, List.length_nil]; omega)
                 · try simp only [List.map_append, List.map_cons, List.map_nil, List.length_append, List.length_map, List.length_cons, List.length_nil, e1]
                   exact weak_sub ⟨rfl, rfl, rfl, gAv rfl (by first | rfl | (rw [c20])), gInt rfl (by simp), trivial⟩ (by repeat constructor))
              | (have hs : sameI x b n = false := by cases h : sameI x b n <;> first | rfl | (exfalso; simp [sameI] at h c42; omega)
                 refine ⟨(i + 1, d, out ++ [x], g49, k49), ⟨by omega, ?_, ?_, ?_⟩, by show l.length - (i + 1) < l.length - i; omega, ?_⟩
                 · rw [hv, hs]; first | (rw [c20]; simp; done) | (have hd2 : d = false := c20; rw [hd2, c30]; simp; done)
                 · exact hd
                 · first | (show out.length ≤ 2 * (i + 1); omega) | (simp only [List.length_append, List.length_cons, List.length_nil]; omega)
                 · try simp only [List.map_append, List.map_cons, List.map_nil, List.length_append, List.length_map, List.length_cons, List.length_nil]
                   exact weak_sub ⟨rfl, rfl, rfl, gAv rfl (by first | rfl | (rw [c20])), gInt rfl (by simp), trivial⟩ (by repeat constructor))
              | (have hs : sameI x b n = true := by cases h : sameI x b n <;> first | rfl | (exfalso; simp [sameI] at h c42; omega)
                 refine ⟨(i + 1, d, out, g, c), ⟨by omega, ?_, ?_, ?_⟩, by show l.length - (i + 1) < l.length - i; omega, ?_⟩
                 · rw [hv, hs]; first | (rw [c20]; simp; done) | (have hd2 : d = false := c20; rw [hd2, c30]; simp; done)
                 · exact hd
                 · first | (show out.length ≤ 2 * (i + 1); omega) | (simp only [List.length_append, List.length_cons, List.length_nil]; omega)
                 · try simp only [List.map_append, List.map_cons, List.map_nil, List.length_append, List.length_map, List.length_cons, List.length_nil]
                   exact weak_sub ⟨rfl, rfl, rfl, gAv rfl (by first | rfl | (rw [c20])), gInt rfl (by simp), trivial⟩ (by repeat constructor))
          · skip
            refine aSkip ?_
            refine aReg ?_
            refine sp pM ?_
            refine sp pAd ?_
            refine sp pMa ?_
            refine oNil ?_
            have hst : putI d (l.drop i) b n tv = (if !d && !aheadI x b n then [⟨b, n.toNat, tv⟩] else []) ++ ((if sameI x b n then [] else [x]) ++ putI (d || !aheadI x b n) (l.drop (i + 1)) b n tv) := by rw [drop_step hx]; rfl
            rw [hst] at hv
            clear hst
            first
              | (have hs : sameI x b n = false := by cases h : sameI x b n <;> first | rfl | (exfalso; simp [sameI] at h c42; omega)
                 have hn0 := hn (hd c20)
                 have e1 : entC ⟨b, n.toNat, tv⟩ = [u32 b, .int n, .int tv] := by simp [entC, Int.toNat_of_nonneg hn0]
                 refine ⟨(i + 1, true, out ++ [⟨b, n.toNat, tv⟩] ++ [x], g49, k49), ⟨by omega, ?_, ?_, ?_⟩, by show l.length - (i + 1) < l.length - i; omega, ?_⟩
                 · rw [hv, hs, c20, c30]; simp
                 · intro h; cases h
                 · first | (show out.length ≤ 2 * (i + 1); omega) | (simp only [List.length_append, List.length_cons, List.length_nil]; omega)
                 · try simp only [List.map_append, List.map_cons, List.map_nil, List.length_append, List.length_map, List.length_cons, List.length_nil, e1]
                   exact weak_sub ⟨rfl, rfl, rfl, gAv rfl (by first | rfl | (rw [c20])), gInt rfl (by simp), trivial⟩ (by repeat constructor))
              | (have hs : sameI x b n = true := by cases h : sameI x b n <;> first | rfl | (exfalso; simp [sameI] at h c42; omega)
                 have hn0 := hn (hd c20)
                 have e1 : entC ⟨b, n.toNat, tv⟩ = [u32 b, .int n, .int tv] := by simp [entC, Int.toNat_of_nonneg hn0]
                 refine ⟨(i + 1, true, out ++ [⟨b, n.toNat, tv⟩], g34, k34), ⟨by omega, ?_, ?_, ?_⟩, by show l.length - (i + 1) < l.length - i; omega, ?_⟩
                 · rw [hv, hs, c20, c30]; simp
                 · intro h; cases h
                 · first | (show out.length ≤ 2 * (i + 1); omega) | (simp only [List.length_append, List.length_cons, List.length_nil]; omega)
                 · try simp only [List.map_append, List.map_cons, List.map_nil, List.length_append, List.length_map, List.length_cons, List.length_nil, e1]
                   exact weak_sub ⟨rfl, rfl, rfl, gAv rfl (by first | rfl | (rw [c20])), gInt rfl (by simp), trivial⟩ (by repeat constructor))
              | (have hs : sameI x b n = false := by cases h : sameI x b n <;> first | rfl | (exfalso; simp [sameI] at h c42; omega)
                 refine ⟨(i + 1, d, out ++ [x], g49, k49), ⟨by omega, ?_, ?_, ?_⟩, by show l.length - (i + 1) < l.length - i; omega, ?_⟩
                 · rw [hv, hs]; first | (rw [c20]; simp; done) | (have hd2 : d = false := c20; rw [hd2, c30]; simp; done)
                 · exact hd
                 · first | (show out.length ≤ 2 * (i + 1); omega) | (simp only [List.length_append, List.length_cons, List.length_nil]; omega)
                 · try simp only [List.map_append, List.map_cons, List.map_nil, List.length_append, List.length_map, List.length_cons, List.length_nil]
                   exact weak_sub ⟨rfl, rfl, rfl, gAv rfl (by first | rfl | (rw [c20])), gInt rfl (by simp), trivial⟩ (by repeat constructor))
              | (have hs : sameI x b n = true := by cases h : sameI x b n <;> first | rfl | (exfalso; simp [sameI] at h c42; omega)
                 refine ⟨(i + 1, d, out, g, c), ⟨by omega, ?_, ?_, ?_⟩, by show l.length - (i + 1) < l.length - i; omega, ?_⟩
                 · rw [hv, hs]; first | (rw [c20]; simp; done) | (have hd2 : d = false := c20; rw [hd2, c30]; simp; done)
                 · exact hd
                 · first | (show out.length ≤ 2 * (i + 1); omega) | (simp only [List.length_append, List.length_cons, List.length_nil]; omega)
                 · try simp only [List.map_append, List.map_cons, List.map_nil, List.length_append, List.length_map, List.length_cons, List.length_nil]
                   exact weak_sub ⟨rfl, rfl, rfl, gAv rfl (by first | rfl | (rw [c20])), gInt rfl (by simp), trivial⟩ (by repeat constructor))
      · skip
        refine dS HT 3 rfl ?_
        refine dS HT 4 rfl ?_
        refine dS HT 5 rfl ?_
        refine dS HT 6 rfl ?_
        refine dS HT 7 rfl ?_
        refine dS HT 8 rfl ?_
        refine dS HT 9 rfl ?_
        refine dGo ?_
        refine eS HT 10 rfl ?_
        refine eS HT 11 rfl ?_
        refine ef HT 12 rfl pK ?_
        refine eE HT ?_
        clear HT
        refine aCondF rfl ?_
        refine aSkip ?_
        refine aSeq ?_
        refine aDrawT ref42_Put_r9_t ref42_Put_r9_b [] 8 #[false, false, false, false, false, false, false, false] (by kernel_rfl) rfl rfl (fun HT => ?_)
        refine dp HT 0 rfl pM ?_
        refine dp HT 1 rfl pM ?_
        first | have _h := hx | obtain ⟨x, hx⟩ : ∃ x, l[i]? = some x := ⟨_, List.getElem?_eq_getElem (by omega)⟩
        refine dp HT 2 rfl (pIdxS rfl rfl rfl es_26 (by omega) (map_get (f := entC) hx)) ?_
        refine dp HT 3 rfl (by first | exact pFb fd_31_0 | exact pFs fd_31_0) ?_
        refine dr HT 4 rfl (by first | exact rSW ty_29 rfl | exact rSA ty_29 | exact rBWa ty_29 | exact rBW ty_29 | exact rBA ty_29 | exact rArA ty_29 (fun _ => rfl)) ?_
        refine dp HT 5 rfl (by first | exact pFb fd_31_0 | exact pFs fd_31_0) ?_
        refine dr HT 6 rfl (by first | exact rSW ty_29 rfl | exact rSA ty_29 | exact rBWa ty_29 | exact rBW ty_29 | exact rBA ty_29 | exact rArA ty_29 (fun _ => rfl)) ?_
        refine dp HT 7 rfl (pEqAn eq_29) ?_
        refine dE HT ?_
        clear HT
        refine aCond rfl (fun c42 => ?_) (fun c42 => ?_)
        · skip
          refine aReg ?_
          refine sp pM ?_
          refine sp pM ?_
          refine sp pM ?_
          refine sp (pIdxS rfl rfl rfl es_26 (by omega) (map_get (f := entC) hx)) ?_
          refine sr (by first | exact rSW ty_31 rfl | exact rSA ty_31 | exact rBWa ty_31 | exact rBW ty_31 | exact rBA ty_31 | exact rArA ty_31 (fun _ => rfl)) ?_
          refine sq ?_
          refine qLit (l := [_]) rfl rfl (by decide) us_26 ty_31 ze_31 rfl (by decide) (by decide) rfl rfl rfl (fun b48 => ?_)
          refine sa ?_
          refine oApp rfl rfl (by decide) rfl (by repeat constructor) (by simp) (srcOwn rfl (by repeat constructor) (by first | rfl | simp)) el_26 sl_26 (by intro z hz; rcases List.mem_cons.1 hz with rfl | hz; rfl; cases hz) (by first | (simp; done) | (simp; omega)) (by first | (simp; done) | (simp; omega)) (fun g49 k49 => ?_)
          refine sp pMa ?_
          refine oNil ?_
          refine aReg ?_
          refine sp pM ?_
          refine sp pAd ?_
          refine sp pMa ?_
          refine oNil ?_
          have hst : putI d (l.drop i) b n tv = (if !d && !aheadI x b n then [⟨b, n.toNat, tv⟩] else []) ++ ((if sameI x b n then [] else [x]) ++ putI (d || !aheadI x b n) (l.drop (i + 1)) b n tv) := by rw [drop_step hx]; rfl
          rw [hst] at hv
          clear hst
          first
            | (have hs : sameI x b n = false := by cases h : sameI x b n <;> first | rfl | (exfalso; simp [sameI] at h c42; omega)
               have hn0 := hn (hd c20)
               have e1 : entC ⟨b, n.toNat, tv⟩ = [u32 b, .int n, .int tv] := by simp [entC, Int.toNat_of_nonneg hn0]
               refine ⟨(i + 1, true, out ++ [⟨b, n.toNat, tv⟩] ++ [x], g49, k49), ⟨by omega, ?_, ?_, ?_⟩, by show l.length - (i + 1) < l.length - i; omega, ?_⟩
               · rw [hv, hs, c20, c30]; simp
               · intro h; cases h
               · first | (show out.length ≤ 2 * (i + 1); omega) | (simp only [List.length_append, List.length_cons, List.length_nil]; omega)
               · try simp only [List.map_append, List.map_cons, List.map_nil, List.length_append, List.length_map, List.length_cons, List.length_nil, e1]
                 exact weak_sub ⟨rfl, rfl, rfl, gAv rfl (by first | rfl | (rw [c20])), gInt rfl (by simp), trivial⟩ (by repeat constructor))
            | (have hs : sameI x b n = true := by cases h : sameI x b n <;> first | rfl | (exfalso; simp [sameI] at h c42; omega)
               have hn0 := hn (hd c20)
               have e1 : entC ⟨b, n.toNat, tv⟩ = [u32 b, .int n, .int tv] := by simp [entC, Int.toNat_of_nonneg hn0]
               refine ⟨(i + 1, true, out ++ [⟨b, n.toNat, tv⟩], g34, k34), ⟨by omega, ?_, ?_, ?_⟩, by show l.length - (i + 1) < l.length - i; omega, ?_⟩
               · rw [hv, hs, c20, c30]; simp
               · intro h; cases h
               · first | (show out.length ≤ 2 * (i + 1); omega) | (simp only [List.length_append, List.length_cons, List.length_nil]; omega)
               · try simp only [List.map_append, List.map_cons, List.map_nil, List.length_append, List.length_map, List.length_cons, List.length_nil, e1]
                 exact weak_sub ⟨rfl, rfl, rfl, gAv rfl (by first | rfl | (rw [c20])), gInt rfl (by simp), trivial⟩ (by repeat constructor))
            | (have hs : sameI x b n = false := by cases h : sameI x b n <;> first | rfl | (exfalso; simp [sameI] at h c42; omega)
               refine ⟨(i + 1, d, out ++ [x], g49, k49), ⟨by omega, ?_, ?_, ?_⟩, by show l.length - (i + 1) < l.length - i; omega, ?_⟩
               · rw [hv, hs]; first | (rw [c20]; simp; done) | (have hd2 : d = false := c20; rw [hd2, c30]; simp; done)
               · exact hd
               · first | (show out.length ≤ 2 * (i + 1); omega) | (simp only [List.length_append, List.length_cons, List.length_nil]; omega)
               · try simp only [List.map_append, List.map_cons, List.map_nil, List.length_append, List.length_map, List.length_cons, List.length_nil]
                 exact weak_sub ⟨rfl, rfl, rfl, gAv rfl (by first | rfl | (rw [c20])), gInt rfl (by simp), trivial⟩ (by repeat constructor))
            | (have hs : sameI x b n = true := by cases h : sameI x b n <;> first | rfl | (exfalso; simp [sameI] at h c42; omega)
               refine ⟨(i + 1, d, out, g, c), ⟨by omega, ?_, ?_, ?_⟩, by show l.length - (i + 1) < l.length - i; omega, ?_⟩
               · rw [hv, hs]; first | (rw [c20]; simp; done) | (have hd2 : d = false := c20; rw [hd2, c30]; simp; done)
               · exact hd
               · first | (show out.length ≤ 2 * (i + 1); omega) | (simp only [List.length_append, List.length_cons, List.length_nil]; omega)
               · try simp only [List.map_append, List.map_cons, List.map_nil, List.length_append, List.length_map, List.length_cons, List.length_nil]
                 exact weak_sub ⟨rfl, rfl, rfl, gAv rfl (by first | rfl | (rw [c20])), gInt rfl (by simp), trivial⟩ (by repeat constructor))
        · skip
          refine aSkip ?_
          refine aReg ?_
          refine sp pM ?_
          refine sp pAd ?_
          refine sp pMa ?_
          refine oNil ?_
          have hst : putI d (l.drop i) b n tv = (if !d && !aheadI x b n then [⟨b, n.toNat, tv⟩] else []) ++ ((if sameI x b n then [] else [x]) ++ putI (d || !aheadI x b n) (l.drop (i + 1)) b n tv) := by rw [drop_step hx]; rfl
          rw [hst] at hv
          clear hst
          first
            | (have hs : sameI x b n = false := by cases h : sameI x b n <;> first | rfl | (exfalso; simp [sameI] at h c42; omega)
               have hn0 := hn (hd c20)
               have e1 : entC ⟨b, n.toNat, tv⟩ = [u32 b, .int n, .int tv] := by simp [entC, Int.toNat_of_nonneg hn0]
               refine ⟨(i + 1, true, out ++ [⟨b, n.toNat, tv⟩] ++ [x], g49, k49), ⟨by omega, ?_, ?_, ?_⟩, by show l.length - (i + 1) < l.length - i; omega, ?_⟩
               · rw [hv, hs, c20, c30]; simp
               · intro h; cases h
               · first | (show out.length ≤ 2 * (i + 1); omega) | (simp only [List.length_append, List.length_cons, List.length_nil]; omega)
               · try simp only [List.map_append, List.map_cons, List.map_nil, List.length_append, List.length_map, List.length_cons, List.length_nil, e1]
                 exact weak_sub ⟨rfl, rfl, rfl, gAv rfl (by first | rfl | (rw [c20])), gInt rfl (by simp), trivial⟩ (by repeat constructor))
            | (have hs : sameI x b n = true := by cases h : sameI x b n <;> first | rfl | (exfalso; simp [sameI] at h c42; omega)
               have hn0 := hn (hd c20)
               have e1 : entC ⟨b, n.toNat, tv⟩ = [u32 b, .int n, .int tv] := by simp [entC, Int.toNat_of_nonneg hn0]
               refine ⟨(i + 1, true, out ++ [⟨b, n.toNat, tv⟩], g34, k34), ⟨by omega, ?_, ?_, ?_⟩, by show l.length - (i + 1) < l.length - i; omega, ?_⟩
               · rw [hv, hs, c20, c30]; simp
               · intro h; cases h
               · first | (show out.length ≤ 2 * (i + 1); omega) | (simp only [List.length_append, List.length_cons, List.length_nil]; omega)
               · try simp only [List.map_append, List.map_cons, List.map_nil, List.length_append, List.length_map, List.length_cons, List.length_nil, e1]
                 exact weak_sub ⟨rfl, rfl, rfl, gAv rfl (by first | rfl | (rw [c20])), gInt rfl (by simp), trivial⟩ (by repeat constructor))
            | (have hs : sameI x b n = false := by cases h : sameI x b n <;> first | rfl | (exfalso; simp [sameI] at h c42; omega)
               refine ⟨(i + 1, d, out ++ [x], g49, k49), ⟨by omega, ?_, ?_, ?_⟩, by show l.length - (i + 1) < l.length - i; omega, ?_⟩
               · rw [hv, hs]; first | (rw [c20]; simp; done) | (have hd2 : d = false := c20; rw [hd2, c30]; simp; done)
               · exact hd
               · first | (show out.length ≤ 2 * (i + 1); omega) | (simp only [List.length_append, List.length_cons, List.length_nil]; omega)
               · try simp only [List.map_append, List.map_cons, List.map_nil, List.length_append, List.length_map, List.length_cons, List.length_nil]
                 exact weak_sub ⟨rfl, rfl, rfl, gAv rfl (by first | rfl | (rw [c20])), gInt rfl (by simp), trivial⟩ (by repeat constructor))
            | (have hs : sameI x b n = true := by cases h : sameI x b n <;> first | rfl | (exfalso; simp [sameI] at h c42; omega)
               refine ⟨(i + 1, d, out, g, c), ⟨by omega, ?_, ?_, ?_⟩, by show l.length - (i + 1) < l.length - i; omega, ?_⟩
               · rw [hv, hs]; first | (rw [c20]; simp; done) | (have hd2 : d = false := c20; rw [hd2, c30]; simp; done)
               · exact hd
               · first | (show out.length ≤ 2 * (i + 1); omega) | (simp only [List.length_append, List.length_cons, List.length_nil]; omega)
               · try simp only [List.map_append, List.map_cons, List.map_nil, List.length_append, List.length_map, List.length_cons, List.length_nil]
                 exact weak_sub ⟨rfl, rfl, rfl, gAv rfl (by first | rfl | (rw [c20])), gInt rfl (by simp), trivial⟩ (by repeat constructor))
    · skip
      refine aExit rfl ?_
      refine aSeq ?_
      refine aSeq ?_
      refine aReg ?_
      refine sp pM ?_
      refine sp pNo ?_
      refine oNil ?_
      refine aCondNot rfl (fun c51 => ?_) (fun c51 => ?_)
      · skip
        refine aReg ?_
        refine sp pM ?_
        refine sr (by first | exact rSW ty_31 rfl | exact rSA ty_31 | exact rBWa ty_31 | exact rBW ty_31 | exact rBA ty_31 | exact rArA ty_31 (fun _ => rfl)) ?_
        refine sq ?_
        refine qLit (l := [_]) rfl rfl (by decide) us_26 ty_31 ze_31 rfl (by decide) (by decide) rfl rfl rfl (fun b54 => ?_)
        refine sa ?_
        refine oApp rfl rfl (by decide) rfl (by repeat constructor) (by simp) (srcOwn rfl (by repeat constructor) (by first | rfl | simp)) el_26 sl_26 (by intro z hz; rcases List.mem_cons.1 hz with rfl | hz; rfl; cases hz) (by first | (simp; done) | (simp; omega)) (by first | (simp; done) | (simp; omega)) (fun g55 k55 => ?_)
        refine sp pMa ?_
        refine oNil ?_
        refine aSeq ?_
        refine aReg ?_
        refine sp pM ?_
        refine sp pMa ?_
        refine oNil ?_
        refine aWeak (weak_settle (k := 4) rfl (by repeat constructor) (by simp)) ?_
        refine aRet ?_
        refine ⟨_, [], _, rfl, .nil, ?_, rfl⟩
        show AV.sl 3 _ = AV.sl 3 _
        congr 1
        rw [hv, show l.drop i = [] from List.drop_of_length_le (by omega)]
        first
          | (rw [c51]; simp [putI]; done)
          | (have hn0 := hn (hd c51)
             rw [c51]
             simp [putI, entC, Int.toNat_of_nonneg hn0, avCells]
             done)
      · skip
        refine aSkip ?_
        refine aSeq ?_
        refine aReg ?_
        refine sp pM ?_
        refine sp pMa ?_
        refine oNil ?_
        refine aWeak (weak_settle (k := 4) rfl (by repeat constructor) (by simp)) ?_
        refine aRet ?_
        refine ⟨_, [], _, rfl, .nil, ?_, rfl⟩
        show AV.sl 3 _ = AV.sl 3 _
        congr 1
        rw [hv, show l.drop i = [] from List.drop_of_length_le (by omega)]
        first
          | (rw [c51]; simp [putI]; done)
          | (have hn0 := hn (hd c51)
             rw [c51]
             simp [putI, entC, Int.toNat_of_nonneg hn0, avCells]
             done)

end A
end Go.Proofs.Ytkgemkadebgeoaa
