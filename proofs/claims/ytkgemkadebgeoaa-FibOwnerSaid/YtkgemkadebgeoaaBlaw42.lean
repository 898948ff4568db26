/- What functions of the program compute: law42 -/
import Derived.Test.YtkgemkadebgeoaaBtrie42e
import Derived.Test.YtkgemkadebgeoaaProg
import Derived.KernelRfl
set_option linter.unusedVariables false
set_option linter.unusedSimpArgs false
namespace Go.Proofs.Ytkgemkadebgeoaa
namespace A

theorem bo_4 : isBoolT Try.prog 4 = true := by kernel_rfl
theorem es_22 : elemSize Try.prog 22 = some 5 := by kernel_rfl
theorem fd_33_0 : fieldOf Try.prog 33 0 = some (0, 1, false) := by kernel_rfl
theorem fd_33_1 : fieldOf Try.prog 33 1 = some (1, 3, true) := by kernel_rfl
theorem fd_33_2 : fieldOf Try.prog 33 2 = some (4, 1, false) := by kernel_rfl
theorem sl_22 : isSl Try.prog 22 = true := by kernel_rfl
theorem ty_4 : tyOf Try.prog 4 = some (1, false) := by kernel_rfl
structure Act42 where
  dr : Bool
  b : Nat
  n : Int
  tv : Int
  a : Nat
def act42C (x : Act42) : List AV := [.v (.bool x.dr), u32 x.b, .int x.n, .int x.tv, u32 x.a]
def act42Ok (x : Act42) : Prop := x.b < 2 ^ 32 ∧ x.a < 2 ^ 32
theorem putI_true_len (b : Nat) (n tv : Int) : ∀ (l : List Ent), (putI true l b n tv).length ≤ l.length
  | [] => by simp [putI]
  | x :: l => by
    rw [putI, Bool.true_or]
    have := putI_true_len b n tv l
    simp only [List.length_append, List.length_cons, Bool.not_true, Bool.false_and, Bool.false_eq_true, if_false, List.length_nil]
    have h1 : (if sameI x b n then ([] : List Ent) else [x]).length ≤ 1 := by split <;> simp
    omega
theorem cntP_le (T : PT) (cnt : Int) (b : Nat) (n tv : Int) : cnt ≤ cntP T cnt b n tv ∧ cntP T cnt b n tv ≤ cnt + 1 := by
  unfold cntP
  split <;> omega
theorem bne_self (a : Int) : Value.bool (a != a) = Value.bool false := by simp
theorem all_ok {t : PT} {e : Ent} (h : e ∈ allT t 0 32) : EntOk e ∧ e.tv ≠ 0 := by
  obtain ⟨j, h1, h2, h3, h4, h5, h6⟩ := allT_in 32 t 0 (by decide) (by decide) e h
  have hp := two_pos j
  refine ⟨⟨by omega, by omega, ?_⟩, h6⟩
  rw [h2, show 32 - (32 - j) = j by omega]
  exact h3
theorem refGet_zero {b n : Nat} : ∀ {l : List Ent}, (∀ e ∈ l, e.tv ≠ 0) → refGet l b n = 0 → ∀ e ∈ l, ¬ (e.b = b ∧ e.n = n)
  | [], _, _, e, he => by simp at he
  | x :: l, h, hz, e, he => by
    rw [refGet] at hz
    split at hz
    · exact absurd hz (h x (by simp))
    · rcases List.mem_cons.1 he with rfl | he
      · assumption
      · exact refGet_zero (fun y hy => h y (by simp [hy])) hz e he
theorem get_eq {t : PT} {b : Nat} {n : Int} (hb : b < 2 ^ 32) : getI (allT t 0 32) b n = getA t b n := by
  unfold getA
  cases hok : okP b n with
  | false => exact getI_bad hok _ (fun e he => (all_ok he).1)
  | true =>
    obtain ⟨h1, h2, h3⟩ := okP_iff.1 hok
    obtain ⟨m, rfl⟩ : ∃ m : Nat, n = m := ⟨n.toNat, by omega⟩
    rw [getI_nat, if_pos rfl]
    exact all_get (by omega) h3 hb
theorem putI_none {t : PT} {b : Nat} {n : Int} (hb : b < 2 ^ 32) (hg : getA t b n = 0) : putI true (allT t 0 32) b n 0 = allT t 0 32 := by
  cases hok : okP b n with
  | false => exact putI_bad hok _ (fun e he => (all_ok he).1)
  | true =>
    obtain ⟨h1, h2, h3⟩ := okP_iff.1 hok
    obtain ⟨m, rfl⟩ : ∃ m : Nat, n = m := ⟨n.toNat, by omega⟩
    rw [putI_nat]
    rw [← get_eq hb, getI_nat] at hg
    refine putAux_true (fun y hy => ?_)
    have := refGet_zero (fun e he => (all_ok he).2) hg y hy
    rw [Bool.eq_false_iff]
    simpa [sameP] using this
theorem refill_all (d : PT) : allT (refill d) 0 32 = allT d 0 32 := by
  unfold refill
  split
  · cases d with
    | nil => rfl
    | node _ _ _ => contradiction
  · rfl
theorem drop_all {t : PT} {b : Nat} {n : Int} (hb : b < 2 ^ 32) : allT (shapeD t b n) 0 32 = putI true (allT t 0 32) b n 0 := by
  unfold shapeD
  split
  · rename_i h; exact (putI_none hb h).symm
  · rename_i h
    have hok := getA_okP h
    obtain ⟨h1, h2, h3⟩ := okP_iff.1 hok
    obtain ⟨m, rfl⟩ : ∃ m : Nat, n = m := ⟨n.toNat, by omega⟩
    rw [refill_all, putI_nat]
    exact all_dropT (by omega) h3 hb
theorem put_all {t : PT} {b : Nat} {n tv : Int} (hb : b < 2 ^ 32) (hok : okP b n = true) (hv : tv ≠ 0) : allT (put t b 32 n.toNat tv) 0 32 = putI (tv == 0) (allT t 0 32) b n tv := by
  obtain ⟨h1, h2, h3⟩ := okP_iff.1 hok
  obtain ⟨m, rfl⟩ : ∃ m : Nat, n = m := ⟨n.toNat, by omega⟩
  rw [putI_nat]
  exact all_put hv (by omega) h3 hb
theorem find_eq {t : PT} {a : Nat} (ha : a < 2 ^ 32) : refFind (allT t 0 32) a ⟨0, 0, 0⟩ = findT t a 32 ⟨0, 0, 0⟩ := find_all 32 t 0 a _ (by decide) (by decide) (Nat.zero_le _) (by omega) (.inl rfl)

def P0 : PT := .node 0 .nil .nil
def P1 : PT := shapeP P0 0 167772160 8 1
def P2 : PT := shapeP P1 1 167837696 16 2
theorem aw1 : codeP P0 0 167772160 8 1 = 0 ∧ cntP P0 0 167772160 8 1 = 1 := by decide +kernel
theorem aw2 : codeP P1 1 167837696 16 2 = 0 ∧ cntP P1 1 167837696 16 2 = 2 := by decide +kernel
theorem aw3 : findT P2 167837701 32 ⟨0, 0, 0⟩ = ⟨167837696, 16, 2⟩ := by decide +kernel

/- waymarklaw42.awake -/
set_option maxRecDepth 100000 in
set_option maxHeartbeats 400000 in
theorem law42_awake  : Triple Try.prog 15 [] [] (fun r h' => r = .v (.bool true) ∧ h' = []) := by
  refine triple_of Try.func15 rfl (by kernel_rfl) rfl (by simp) ?_
  refine aSeq ?_
  refine aReg ?_
  refine sp pMa ?_
  refine oNil ?_
  refine aSeq ?_
  refine aReg ?_
  refine sa ?_
  refine aCall rfl rfl (by decide) rfl rfl .nil trie_New ?_
  rintro _ _ ⟨tb, rb, rfl, rfl⟩
  refine sp pMa ?_
  refine oNil ?_
  refine aSeq ?_
  refine aReg ?_
  refine sp pM ?_
  refine sp (pBuild rfl st_29 ze_29 rfl rfl rfl rfl) ?_
  refine sp (pBuild rfl st_31 ze_31 rfl rfl rfl rfl) ?_
  refine sa ?_
  refine aCallTail (hfr := []) (hin := trieH tb _ _) rfl rfl (by decide) rfl rfl (trie_Put tb (.node rb 0 .nil .nil) 0 167772160 8 1 (by decide) rfl (by decide)) ?_
  rintro _ _ ⟨rfl, T1, hT1, rfl, hs1⟩
  have hs1 : T1.shape = P1 := hs1
  rw [show codeP (AT.node rb 0 .nil .nil).shape 0 167772160 8 1 = 0 from aw1.1, show cntP (AT.node rb 0 .nil .nil).shape 0 167772160 8 1 = 1 from aw1.2]
  refine sp pMa ?_
  refine oNil ?_
  refine aSeq ?_
  refine aReg ?_
  refine sp pM ?_
  refine sp (pBuild rfl st_29 ze_29 rfl rfl rfl rfl) ?_
  refine sp (pBuild rfl st_31 ze_31 rfl rfl rfl rfl) ?_
  refine sa ?_
  refine aCallTail (hfr := []) (hin := trieH tb _ _) rfl rfl (by decide) rfl rfl (trie_Put tb T1 1 167837696 16 2 (by decide) hT1 (by decide)) ?_
  rintro _ _ ⟨rfl, T2, hT2, rfl, hs2⟩
  rw [hs1] at hs2 ⊢
  rw [aw2.1, aw2.2]
  have hs2 : T2.shape = P2 := hs2
  refine sp pMa ?_
  refine oNil ?_
  refine aSeq ?_
  refine aReg ?_
  refine sp pM ?_
  refine sa ?_
  refine aCallTail (hfr := []) (hin := trieH tb _ _) rfl rfl (by decide) rfl rfl (trie_Find tb T2 2 167837701 (by decide) hT2) ?_
  rintro _ _ ⟨rfl, rfl⟩
  rw [hs2, aw3]
  refine sp pM ?_
  refine sp pX ?_
  refine sp pX ?_
  refine sq ?_
  refine qAlloc rfl rfl (by decide) ze_31 rfl (fun b4 => ?_)
  refine sa ?_
  refine oStW rfl rfl rfl rfl (by repeat constructor) ty_31 ?_
  refine sp pMa ?_
  refine oNil ?_
  refine aSeq ?_
  refine aReg ?_
  refine sp pM ?_
  refine sp (pBin rfl rfl rfl rfl (rfl : _ = Value.bool true)) ?_
  refine sp pM ?_
  refine gp pM ?_
  refine gp (pBin rfl rfl rfl rfl (rfl : _ = Value.bool true)) ?_
  refine sp pK ?_
  refine sp pM ?_
  refine gp pM ?_
  refine sp pK ?_
  refine sp pM ?_
  refine gp (pFb fd_31_1) ?_
  refine gr (rB1 ty_3) ?_
  refine gp (pBin rfl rfl rfl rfl (rfl : _ = Value.bool true)) ?_
  refine sp pK ?_
  refine sp pM ?_
  refine gp (pFb fd_31_0) ?_
  refine gp (pFb fd_29_1) ?_
  refine gr (rB1 ty_3) ?_
  refine gp (pBin rfl rfl rfl rfl (rfl : _ = Value.bool true)) ?_
  refine sp pK ?_
  refine sp pMa ?_
  refine oNil ?_
  refine aRet ?_
  refine ⟨_, [], _, rfl, .nil, rfl, rfl⟩

/- waymarklaw42.TrieActs -/
set_option maxRecDepth 100000 in
set_option maxHeartbeats 2000000 in
theorem law42_TrieActs (acts : List Act42) (hok : ∀ x ∈ acts, act42Ok x) (hal : acts.length ≤ 9223372036854775807) : Triple Try.prog 3 [AV.sl 5 (acts.map act42C)] [] (fun r h' => r = .v (.bool true) ∧ h' = []) := by
  refine triple_of Try.func3 rfl (by kernel_rfl) rfl (by simp) ?_
  refine aSeq ?_
  refine aReg ?_
  refine sp pMa ?_
  refine oNil ?_
  refine aSeq ?_
  refine aSeq ?_
  refine aReg ?_
  refine sp pM ?_
  refine sp (by first | exact pLm sl_22 | exact pLs sl_22) ?_
  refine sp pB ?_
  refine oNil ?_
  refine aCondDec rfl (fun c19 => ?_) (fun c19 => ?_)
  · skip
    refine aSeq ?_
    refine aReg ?_
    refine sq ?_
    refine qCallV rfl rfl (by decide) rfl rfl (lents_refl _) law42_awake ?_
    refine sp pMa ?_
    refine oNil ?_
    refine aRet ?_
    refine ⟨_, [], _, rfl, .nil, rfl, rfl⟩
  · skip
    refine aSkip ?_
    refine aSeq ?_
    refine aReg ?_
    refine sa ?_
    refine aCall rfl rfl (by decide) rfl rfl .nil trie_New ?_
    rintro _ _ ⟨tb, rb, rfl, rfl⟩
    refine sp pMa ?_
    refine oNil ?_
    refine aSeq ?_
    refine aReg ?_
    refine sq ?_
    refine qLit (l := []) rfl rfl (by decide) us_26 ty_31 ze_31 rfl (by decide) (by decide) rfl rfl rfl (fun b22 => ?_)
    refine sp pMa ?_
    refine oNil ?_
    refine aSeq ?_
    refine aSeq ?_
    refine aReg ?_
    refine sp pMa ?_
    refine oNil ?_
    refine aBlock ?_
    refine aWeak (weak_settle (k := 4) rfl .hd rfl) ?_
    refine aLoopI (α := Nat × AT × Int) (fun (i, T, cnt) => i ≤ acts.length ∧ T.isNil = false ∧ (-(i : Int) ≤ cnt ∧ cnt ≤ i) ∧ (allT T.shape 0 32).length ≤ i) (fun (i, T, cnt) => ([(0, AV.sl 5 (acts.map act42C)), (3, trieP tb), (4, AV.sl 3 ((allT T.shape 0 32).map entC)), (5, .int i)], trieH tb T cnt)) (fun (i, T, cnt) => acts.length - i) (0, .node rb 0 .nil .nil, 0) ?_ ?_ ?_
    · skip
      exact ⟨by omega, rfl, by omega, Nat.le_refl 0⟩
    · skip
      exact weak_env ⟨rfl, rfl, rfl, gInt rfl (by simp), trivial⟩
    · rintro ⟨i, T, cnt⟩ ⟨hi, hT, hcn, hln⟩
      skip
      refine aSeq ?_
      refine aSeq ?_
      refine aReg ?_
      refine sp pM ?_
      refine sp pM ?_
      refine sp (by first | exact pLm sl_22 | exact pLs sl_22 | exact pLv sl_22) ?_
      refine sp pB ?_
      refine oNil ?_
      refine aCondDec rfl (fun c26 => ?_) (fun c26 => ?_)
      · skip
        refine aSkip ?_
        refine aSeq ?_
        refine aBlock ?_
        refine aSeq ?_
        obtain ⟨x, hx⟩ : ∃ x, acts[i]? = some x := ⟨_, List.getElem?_eq_getElem (by omega)⟩
        have hxo := hok x (List.mem_of_getElem? hx)
        refine aReg ?_
        refine sp pM ?_
        refine sp pM ?_
        refine sp (pIdxS rfl rfl rfl es_22 (by omega) (map_get (f := act42C) hx)) ?_
        refine sp (by first | exact pFb fd_33_1 | exact pFs fd_33_1) ?_
        refine sr (by first | exact rSW ty_31 rfl | exact rSA ty_31 | exact rBWa ty_31 | exact rBW ty_31 | exact rBA ty_31 | exact rArA ty_31 (fun _ => rfl)) ?_
        refine sq ?_
        refine qAlloc rfl rfl (by decide) ze_31 rfl (fun b6 => ?_)
        refine sa ?_
        refine oStW rfl rfl rfl rfl (by repeat constructor) ty_31 ?_
        refine oNil ?_
        refine aSeq ?_
        refine aReg ?_
        refine sp (pFb fd_31_0) ?_
        refine sr (by first | exact rBWa ty_29 | exact rBW ty_29 | exact rBA ty_29) ?_
        refine sq ?_
        refine qCallV rfl rfl (by decide) rfl rfl (lents_refl _) (ref41_May x.b x.n hxo.1) ?_
        refine sp pMa ?_
        refine oNil ?_
        refine aSeq ?_
        refine aReg ?_
        refine sp pM ?_
        refine sp (pFb fd_31_0) ?_
        refine sr (by first | exact rBWa ty_29 | exact rBW ty_29 | exact rBA ty_29) ?_
        refine sq ?_
        refine qCallV rfl rfl (by decide) rfl rfl (lents_refl _) (ref42_Get (allT T.shape 0 32) x.b x.n (by omega)) ?_
        rw [get_eq hxo.1]
        refine sp pMa ?_
        refine oNil ?_
        refine aSeq ?_
        refine aReg ?_
        refine sp pM ?_
        refine sp (pFb fd_31_0) ?_
        refine sr (by first | exact rBWa ty_29 | exact rBW ty_29 | exact rBA ty_29) ?_
        refine sa ?_
        refine aCallTail (hfr := [_]) (hin := trieH tb _ _) rfl rfl (by decide) rfl rfl (trie_Get tb T cnt x.b x.n hxo.1 hT) ?_
        rintro _ _ ⟨rfl, rfl⟩
        refine sp pM ?_
        refine sp pX ?_
        refine sp pX ?_
        refine sp pMa ?_
        refine sp pMa ?_
        refine oNil ?_
        refine aSeq ?_
        refine aSeq ?_
        refine aReg ?_
        refine sp pM ?_
        refine sp pM ?_
        refine sp (pBin rfl rfl rfl rfl (bne_self _)) ?_
        refine sp pM ?_
        refine gp pM ?_
        refine gp pM ?_
        refine gp pB ?_
        refine gp (pEqB rfl (.inr rfl) rfl rfl bo_4 (show _ = false by simp)) ?_
        refine sp pK ?_
        refine oNil ?_
        refine aCondF rfl ?_
        refine aSkip ?_
        refine aCutI (α := AT × Int) (fun (T2, c2) => T2.isNil = false ∧ (-((i : Int) + 1) ≤ c2 ∧ c2 ≤ (i : Int) + 1) ∧ (allT T2.shape 0 32).length ≤ i + 1) (fun (T2, c2) => ([(0, AV.sl 5 (acts.map act42C)), (3, trieP tb), (4, AV.sl 3 ((allT T2.shape 0 32).map entC)), (5, .int i), (6, .v (.pointer (some ⟨b6, 0, none⟩)))], .box b6 [u32 x.b, .int x.n, .int x.tv] :: trieH tb T2 c2)) ?_ ?_
        · skip
          refine aSeq ?_
          refine aReg ?_
          refine sp pM ?_
          refine sp pM ?_
          refine sp (pIdxS rfl rfl rfl es_22 (by omega) (map_get (f := act42C) hx)) ?_
          refine sp (by first | exact pFb fd_33_0 | exact pFs fd_33_0) ?_
          refine sr (by first | exact rS1 ty_4 | exact rB1 ty_4 | exact rAr ty_4 | exact rArL ty_4 | exact rArR ty_4 (by first | rfl | exact arrF_len one_len)) ?_
          refine oNil ?_
          refine aCond rfl (fun c61 => ?_) (fun c61 => ?_)
          · skip
            refine aSeq ?_
            refine aReg ?_
            refine sp pM ?_
            refine sp (pFb fd_31_0) ?_
            refine sr (by first | exact rBWa ty_29 | exact rBW ty_29 | exact rBA ty_29) ?_
            refine sa ?_
            refine aCallTail (hfr := [_]) (hin := trieH tb _ _) rfl rfl (by decide) rfl rfl (trie_Drop tb T cnt x.b x.n hxo.1 hT (by omega)) ?_
            rintro _ _ ⟨rfl, T', hT', rfl, hs'⟩
            rw [codeD]
            refine sp pMa ?_
            refine oNil ?_
            refine aSeq ?_
            refine aSeq ?_
            refine aReg ?_
            refine sp pM ?_
            refine sp pB ?_
            refine sp pM ?_
            refine sp pB ?_
            refine sp (pEqB rfl (.inr rfl) rfl rfl bo_4 (show _ = false by by_cases h : getA T.shape x.b x.n = 0 <;> simp [h])) ?_
            refine sp pM ?_
            refine gp pM ?_
            refine gp pB ?_
            refine gp pM ?_
            refine gp pB ?_
            refine gp (pEqB rfl (.inr rfl) rfl rfl bo_4 (show _ = false by by_cases h : getA T.shape x.b x.n = 0 <;> simp [h])) ?_
            refine sp pK ?_
            refine oNil ?_
            refine aCondF rfl ?_
            refine aSkip ?_
            refine aReg ?_
            refine sp pM ?_
            refine sp (pFb fd_31_0) ?_
            refine sr (by first | exact rBWa ty_29 | exact rBW ty_29 | exact rBA ty_29) ?_
            refine sp (pBuild rfl st_31 ze_31 rfl rfl rfl rfl) ?_
            refine sq ?_
            refine qCall0 rfl rfl (by decide) rfl rfl (ref42_Put (allT T.shape 0 32) x.b x.n 0 (by omega) (fun h => absurd rfl h)) ?_
            rintro _ _ ⟨rfl, rfl⟩
            refine sp pMa ?_
            refine oNil ?_
            first
              | (have hall : allT T'.shape 0 32 = putI true (allT T.shape 0 32) x.b x.n 0 := by rw [hs']; exact drop_all hxo.1
                 have hpl := putI_true_len x.b x.n 0 (allT T.shape 0 32)
                 refine ⟨(T', if getA T.shape x.b x.n = 0 then cnt else cnt - 1), ⟨hT', by split <;> omega, by rw [hall]; omega⟩, weak_env ⟨rfl, rfl, gAv rfl (by first | (dsimp only; rw [hall]; rfl) | (rw [hall]; rfl)), rfl, rfl, trivial⟩⟩)
              | (have hcode : codeP T.shape cnt x.b x.n x.tv = 0 := by rw [codeP, if_pos ⟨hok2, hv2⟩, if_neg (by omega)]
                 have hall : allT T'.shape 0 32 = putI (x.tv == 0) (allT T.shape 0 32) x.b x.n x.tv := by rw [hs', shapeP, if_pos hcode]; exact put_all hxo.1 hok2 hv2
                 have hpl := putI_len x.b x.n x.tv (allT T.shape 0 32) (x.tv == 0)
                 have hcp := cntP_le T.shape cnt x.b x.n x.tv
                 refine ⟨(T', cntP T.shape cnt x.b x.n x.tv), ⟨hT', by omega, by rw [hall]; omega⟩, weak_env ⟨rfl, rfl, gAv rfl (by first | (dsimp only; rw [hall]; done) | (rw [hall]; done)), rfl, rfl, trivial⟩⟩)
              | (have hcode : codeP T.shape cnt x.b x.n x.tv = 1 := by rw [codeP, if_neg]; rintro ⟨h1, h2⟩; simp_all
                 have hall : T'.shape = T.shape := by rw [hs', shapeP, if_neg (by rw [hcode]; decide)]
                 have hcp := cntP_le T.shape cnt x.b x.n x.tv
                 refine ⟨(T', cntP T.shape cnt x.b x.n x.tv), ⟨hT', by omega, by rw [hall]; omega⟩, weak_env ⟨rfl, rfl, gAv rfl (by first | (dsimp only; rw [hall]; done) | (rw [hall]; done)), rfl, rfl, trivial⟩⟩)
          · skip
            refine aSeq ?_
            refine aReg ?_
            refine sp pM ?_
            refine sr (by first | exact rBWa ty_31 | exact rBW ty_31 | exact rBA ty_31) ?_
            refine sa ?_
            refine aCallTail (hfr := [_]) (hin := trieH tb _ _) rfl rfl (by decide) rfl rfl (trie_Put tb T cnt x.b x.n x.tv hxo.1 hT (by omega)) ?_
            rintro _ _ ⟨rfl, T', hT', rfl, hs'⟩
            rw [show codeP T.shape cnt x.b x.n x.tv = if okP x.b x.n = true ∧ x.tv ≠ 0 then 0 else 1 by rw [codeP]; split; rw [if_neg (by omega)]; rfl]
            refine sp pMa ?_
            refine oNil ?_
            refine aSeq ?_
            refine aReg ?_
            refine sp pM ?_
            refine sp pM ?_
            refine oSplit 87 rfl (fun c87 => ?_) (fun c87 => ?_)
            · skip
              refine gp (pFb fd_31_1) ?_
              refine gr (rB1 ty_3) ?_
              refine gp pB ?_
              refine sp pK ?_
              refine sp pMa ?_
              refine oNil ?_
              refine aSeq ?_
              refine aSeq ?_
              refine aReg ?_
              refine sp pM ?_
              refine sp pB ?_
              refine sp pM ?_
              refine sp (pEqB rfl (.inr rfl) rfl rfl bo_4 (show _ = false by by_cases h : x.tv = 0 <;> simp_all)) ?_
              refine sp pM ?_
              refine gp pM ?_
              refine gp pB ?_
              refine gp pM ?_
              refine gp pNo ?_
              refine gp (pEqB rfl (.inr rfl) rfl rfl bo_4 (show _ = false by by_cases h : x.tv = 0 <;> simp_all)) ?_
              refine sp pK ?_
              refine oNil ?_
              refine aCondF rfl ?_
              refine aSkip ?_
              refine aSeq ?_
              refine aReg ?_
              refine sp pM ?_
              refine oNil ?_
              refine aCondNe rfl (fun c103 => ?_) (fun c103 => ?_)
              · skip
                have hok2 : okP x.b x.n = true := by simpa using c87
                have hv2 : x.tv ≠ 0 := by simpa using c103
                refine aReg ?_
                refine sp pM ?_
                refine sr (by first | exact rBWa ty_31 | exact rBW ty_31 | exact rBA ty_31) ?_
                refine sq ?_
                refine qCall0 rfl rfl (by decide) rfl rfl (ref42_Put (allT T.shape 0 32) x.b x.n x.tv (by omega) (fun _ => (okP_iff.1 hok2).1)) ?_
                rintro _ _ ⟨rfl, rfl⟩
                refine sp pMa ?_
                refine oNil ?_
                first
                  | (have hall : allT T'.shape 0 32 = putI true (allT T.shape 0 32) x.b x.n 0 := by rw [hs']; exact drop_all hxo.1
                     have hpl := putI_true_len x.b x.n 0 (allT T.shape 0 32)
                     refine ⟨(T', if getA T.shape x.b x.n = 0 then cnt else cnt - 1), ⟨hT', by split <;> omega, by rw [hall]; omega⟩, weak_env ⟨rfl, rfl, gAv rfl (by first | (dsimp only; rw [hall]; rfl) | (rw [hall]; rfl)), rfl, rfl, trivial⟩⟩)
                  | (have hcode : codeP T.shape cnt x.b x.n x.tv = 0 := by rw [codeP, if_pos ⟨hok2, hv2⟩, if_neg (by omega)]
                     have hall : allT T'.shape 0 32 = putI (x.tv == 0) (allT T.shape 0 32) x.b x.n x.tv := by rw [hs', shapeP, if_pos hcode]; exact put_all hxo.1 hok2 hv2
                     have hpl := putI_len x.b x.n x.tv (allT T.shape 0 32) (x.tv == 0)
                     have hcp := cntP_le T.shape cnt x.b x.n x.tv
                     refine ⟨(T', cntP T.shape cnt x.b x.n x.tv), ⟨hT', by omega, by rw [hall]; omega⟩, weak_env ⟨rfl, rfl, gAv rfl (by first | (dsimp only; rw [hall]; done) | (rw [hall]; done)), rfl, rfl, trivial⟩⟩)
                  | (have hcode : codeP T.shape cnt x.b x.n x.tv = 1 := by rw [codeP, if_neg]; rintro ⟨h1, h2⟩; simp_all
                     have hall : T'.shape = T.shape := by rw [hs', shapeP, if_neg (by rw [hcode]; decide)]
                     have hcp := cntP_le T.shape cnt x.b x.n x.tv
                     refine ⟨(T', cntP T.shape cnt x.b x.n x.tv), ⟨hT', by omega, by rw [hall]; omega⟩, weak_env ⟨rfl, rfl, gAv rfl (by first | (dsimp only; rw [hall]; done) | (rw [hall]; done)), rfl, rfl, trivial⟩⟩)
              · skip
                refine aSkip ?_
                first
                  | (have hall : allT T'.shape 0 32 = putI true (allT T.shape 0 32) x.b x.n 0 := by rw [hs']; exact drop_all hxo.1
                     have hpl := putI_true_len x.b x.n 0 (allT T.shape 0 32)
                     refine ⟨(T', if getA T.shape x.b x.n = 0 then cnt else cnt - 1), ⟨hT', by split <;> omega, by rw [hall]; omega⟩, weak_env ⟨rfl, rfl, gAv rfl (by first | (dsimp only; rw [hall]; rfl) | (rw [hall]; rfl)), rfl, rfl, trivial⟩⟩)
                  | (have hcode : codeP T.shape cnt x.b x.n x.tv = 0 := by rw [codeP, if_pos ⟨hok2, hv2⟩, if_neg (by omega)]
                     have hall : allT T'.shape 0 32 = putI (x.tv == 0) (allT T.shape 0 32) x.b x.n x.tv := by rw [hs', shapeP, if_pos hcode]; exact put_all hxo.1 hok2 hv2
                     have hpl := putI_len x.b x.n x.tv (allT T.shape 0 32) (x.tv == 0)
                     have hcp := cntP_le T.shape cnt x.b x.n x.tv
                     refine ⟨(T', cntP T.shape cnt x.b x.n x.tv), ⟨hT', by omega, by rw [hall]; omega⟩, weak_env ⟨rfl, rfl, gAv rfl (by first | (dsimp only; rw [hall]; done) | (rw [hall]; done)), rfl, rfl, trivial⟩⟩)
                  | (have hcode : codeP T.shape cnt x.b x.n x.tv = 1 := by rw [codeP, if_neg]; rintro ⟨h1, h2⟩; simp_all
                     have hall : T'.shape = T.shape := by rw [hs', shapeP, if_neg (by rw [hcode]; decide)]
                     have hcp := cntP_le T.shape cnt x.b x.n x.tv
                     refine ⟨(T', cntP T.shape cnt x.b x.n x.tv), ⟨hT', by omega, by rw [hall]; omega⟩, weak_env ⟨rfl, rfl, gAv rfl (by first | (dsimp only; rw [hall]; done) | (rw [hall]; done)), rfl, rfl, trivial⟩⟩)
            · skip
              refine gf ?_
              refine gf ?_
              refine gf ?_
              refine sp pK ?_
              refine sp pMa ?_
              refine oNil ?_
              refine aSeq ?_
              refine aSeq ?_
              refine aReg ?_
              refine sp pM ?_
              refine sp pB ?_
              refine sp pM ?_
              refine sp (pEqB rfl (.inr rfl) rfl rfl bo_4 (show _ = false by by_cases h : x.tv = 0 <;> simp_all)) ?_
              refine sp pM ?_
              refine gp pM ?_
              refine gp pB ?_
              refine gp pM ?_
              refine gp pNo ?_
              refine gp (pEqB rfl (.inr rfl) rfl rfl bo_4 (show _ = false by by_cases h : x.tv = 0 <;> simp_all)) ?_
              refine sp pK ?_
              refine oNil ?_
              refine aCondF rfl ?_
              refine aSkip ?_
              refine aSeq ?_
              refine aReg ?_
              refine sp pM ?_
              refine oNil ?_
              refine aCondF rfl ?_
              refine aSkip ?_
              first
                | (have hall : allT T'.shape 0 32 = putI true (allT T.shape 0 32) x.b x.n 0 := by rw [hs']; exact drop_all hxo.1
                   have hpl := putI_true_len x.b x.n 0 (allT T.shape 0 32)
                   refine ⟨(T', if getA T.shape x.b x.n = 0 then cnt else cnt - 1), ⟨hT', by split <;> omega, by rw [hall]; omega⟩, weak_env ⟨rfl, rfl, gAv rfl (by first | (dsimp only; rw [hall]; rfl) | (rw [hall]; rfl)), rfl, rfl, trivial⟩⟩)
                | (have hcode : codeP T.shape cnt x.b x.n x.tv = 0 := by rw [codeP, if_pos ⟨hok2, hv2⟩, if_neg (by omega)]
                   have hall : allT T'.shape 0 32 = putI (x.tv == 0) (allT T.shape 0 32) x.b x.n x.tv := by rw [hs', shapeP, if_pos hcode]; exact put_all hxo.1 hok2 hv2
                   have hpl := putI_len x.b x.n x.tv (allT T.shape 0 32) (x.tv == 0)
                   have hcp := cntP_le T.shape cnt x.b x.n x.tv
                   refine ⟨(T', cntP T.shape cnt x.b x.n x.tv), ⟨hT', by omega, by rw [hall]; omega⟩, weak_env ⟨rfl, rfl, gAv rfl (by first | (dsimp only; rw [hall]; done) | (rw [hall]; done)), rfl, rfl, trivial⟩⟩)
                | (have hcode : codeP T.shape cnt x.b x.n x.tv = 1 := by rw [codeP, if_neg]; rintro ⟨h1, h2⟩; simp_all
                   have hall : T'.shape = T.shape := by rw [hs', shapeP, if_neg (by rw [hcode]; decide)]
                   have hcp := cntP_le T.shape cnt x.b x.n x.tv
                   refine ⟨(T', cntP T.shape cnt x.b x.n x.tv), ⟨hT', by omega, by rw [hall]; omega⟩, weak_env ⟨rfl, rfl, gAv rfl (by first | (dsimp only; rw [hall]; done) | (rw [hall]; done)), rfl, rfl, trivial⟩⟩)
        · rintro ⟨T2, c2⟩ ⟨hT2, hc2, hl2⟩
          skip
          refine aSeq ?_
          refine aReg ?_
          refine sp pM ?_
          refine sp pM ?_
          refine sp pM ?_
          refine sp (pIdxS rfl rfl rfl es_22 (by omega) (map_get (f := act42C) hx)) ?_
          refine sp (by first | exact pFb fd_33_2 | exact pFs fd_33_2) ?_
          refine sr (by first | exact rS1 ty_27 | exact rB1 ty_27 | exact rAr ty_27 | exact rArL ty_27 | exact rArR ty_27 (by first | rfl | exact arrF_len one_len)) ?_
          refine sa ?_
          refine aCallTail (hfr := [_]) (hin := trieH tb _ _) rfl rfl (by decide) rfl rfl (trie_Find tb T2 c2 x.a hxo.2 hT2) ?_
          rintro _ _ ⟨rfl, rfl⟩
          refine sp pM ?_
          refine sp pX ?_
          refine sp pX ?_
          refine sq ?_
          refine qAlloc rfl rfl (by decide) ze_31 rfl (fun b14 => ?_)
          refine sa ?_
          refine oStW rfl rfl rfl rfl (by repeat constructor) ty_31 ?_
          refine sp pMa ?_
          refine oNil ?_
          refine aSeq ?_
          refine aReg ?_
          refine sp pM ?_
          refine sp pM ?_
          refine sp pM ?_
          refine sp (pIdxS rfl rfl rfl es_22 (by omega) (map_get (f := act42C) hx)) ?_
          refine sp (by first | exact pFb fd_33_2 | exact pFs fd_33_2) ?_
          refine sr (by first | exact rS1 ty_27 | exact rB1 ty_27 | exact rAr ty_27 | exact rArL ty_27 | exact rArR ty_27 (by first | rfl | exact arrF_len one_len)) ?_
          refine sq ?_
          refine qCall0 rfl rfl (by decide) rfl rfl (ref42_Find (allT T2.shape 0 32) x.a (by omega) hxo.2 (fun e he => (all_ok he).1)) ?_
          rintro _ _ ⟨rfl, rfl⟩
          rw [find_eq hxo.2]
          refine sq ?_
          refine qAlloc rfl rfl (by decide) ze_31 rfl (fun b16 => ?_)
          refine sa ?_
          refine oStW rfl rfl rfl rfl (by repeat constructor) ty_31 ?_
          refine oNil ?_
          refine aSeq ?_
          refine aReg ?_
          refine sr (by first | exact rBWa ty_31 | exact rBW ty_31 | exact rBA ty_31) ?_
          refine sr (by first | exact rBWa ty_31 | exact rBW ty_31 | exact rBA ty_31) ?_
          refine sp (pEqG rfl (.inr rfl) rfl rfl ep_31 rfl rfl rfl (show _ = false by simp)) ?_
          refine sp pM ?_
          refine gp pM ?_
          refine gp (pFb fd_31_1) ?_
          refine gr (rB1 ty_3) ?_
          refine gp pB ?_
          refine gp (pEqB rfl (.inr rfl) rfl rfl bo_4 (show _ = false by simp)) ?_
          refine sp pK ?_
          refine sp pM ?_
          refine gp pM ?_
          refine ga ?_
          refine aCallTail (hfr := [_, _, _]) (hin := trieH tb _ _) rfl rfl (by decide) rfl rfl (trie_All tb T2 c2 hT2 (by omega)) ?_
          rintro _ _ ⟨g136, k136, rfl, rfl⟩
          refine oWeak (weak_settle (k := 136) rfl (by repeat constructor) (by simp)) ?_
          refine gp pM ?_
          refine ga ?_
          refine (qCallV rfl rfl (by decide) rfl rfl (lents_refl _) (ref42_Same (allT T2.shape 0 32) (allT T2.shape 0 32) (by omega) (by omega)) ?_).op
          rw [show decide (allT T2.shape 0 32 = allT T2.shape 0 32) = true by simp]
          refine gp pNo ?_
          refine sp pK ?_
          refine oNil ?_
          refine aCondF rfl ?_
          refine aSkip ?_
          refine aReg ?_
          refine sp pM ?_
          refine sp pAd ?_
          refine sp pMa ?_
          refine oNil ?_
          exact ⟨(i + 1, T2, c2), ⟨by omega, hT2, by omega, hl2⟩, by show acts.length - (i + 1) < acts.length - i; omega, weak_sub ⟨rfl, rfl, rfl, gInt rfl (by simp), trivial⟩ (tk_after (l := [_, _, _]))⟩
      · skip
        refine aExit rfl ?_
        refine aSeq ?_
        refine aReg ?_
        refine sq ?_
        refine qCallV rfl rfl (by decide) rfl rfl (lents_refl _) law42_awake ?_
        refine sp pMa ?_
        refine oNil ?_
        refine aRet ?_
        refine ⟨_, [], _, rfl, .nil, rfl, rfl⟩

end A
end Go.Proofs.Ytkgemkadebgeoaa
