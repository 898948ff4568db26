/- What functions of the program compute: trie42 -/
import Derived.Test.YtkgemkadebgeoaaBref42
import Derived.Test.YtkgemkadebgeoaaProg
import Derived.KernelRfl
set_option linter.unusedVariables false
set_option linter.unusedSimpArgs false
namespace Go.Proofs.Ytkgemkadebgeoaa
namespace A

theorem ar_127 : arrOf Try.prog 127 = some (2, 1) := by kernel_rfl
theorem fd_129_0 : fieldOf Try.prog 129 0 = some (0, 1, false) := by kernel_rfl
theorem fd_129_1 : fieldOf Try.prog 129 1 = some (1, 2, true) := by kernel_rfl
theorem fd_54_0 : fieldOf Try.prog 54 0 = some (0, 1, false) := by kernel_rfl
theorem pt_24 : isPtrT Try.prog 24 = true := by kernel_rfl
theorem pt_52 : isPtrT Try.prog 52 = true := by kernel_rfl
theorem st_129 : structPlaces Try.prog 129 = some [(0, 1), (1, 2)] := by kernel_rfl
theorem st_54 : structPlaces Try.prog 54 = some [(0, 1), (1, 1)] := by kernel_rfl
theorem ty_52 : tyOf Try.prog 52 = some (1, false) := by kernel_rfl
theorem ze_129 : zeroOf Try.prog 129 = some (.agg #[.int .i64 0, .pointer none, .pointer none]) := by kernel_rfl
theorem ze_54 : zeroOf Try.prog 54 = some (.agg #[.pointer none, .int .i64 0]) := by kernel_rfl
abbrev trieH (tb : Nat) (T : AT) (cnt : Int) : List HA := .box tb [.v T.ptr, .int cnt] :: T.heap
abbrev trieP (tb : Nat) : AV := .v (.pointer (some ⟨tb, 0, none⟩))
theorem ptr_nil (S : AT) : ptrNil S.ptr = some S.isNil := by cases S <;> rfl
theorem not_nil {S : AT} (h : S.isNil = false) : ∃ a tv x y, S = .node a tv x y := by
  cases S with
  | nil => cases h
  | node a tv x y => exact ⟨a, tv, x, y, rfl⟩
theorem is_nil {S : AT} (h : S.isNil = true) : S = .nil := by
  cases S with
  | nil => rfl
  | node a tv x y => cases h
theorem asub_nil_le {b r : Nat} : ∀ (i k : Nat) (T : AT), i ≤ k → asub T b r i = .nil → asub T b r k = .nil := by
  induction r with
  | zero =>
    intro i k T h1 h2
    cases k with
    | zero => obtain rfl : i = 0 := by omega
              exact h2
    | succ k => cases T <;> rfl
  | succ r ih =>
    intro i k T h1 h2
    cases T with
    | nil => rw [asub_nil]
    | node a tv x y =>
      cases i with
      | zero => cases h2
      | succ i =>
        cases k with
        | zero => omega
        | succ k =>
          have h2 : (if b / 2 ^ r % 2 = 0 then asub x b r i else asub y b r i) = .nil := h2
          show (if b / 2 ^ r % 2 = 0 then asub x b r k else asub y b r k) = .nil
          split at h2
          · rw [if_pos (by assumption)]; exact ih i k x (by omega) h2
          · rw [if_neg (by assumption)]; exact ih i k y (by omega) h2
theorem nd_get {tv : Int} {x y : AT} {q : Nat} (hq : q < 2) : (ndC tv x y)[0 + 1 + ((q : Nat) : Int).toNat * 1]? = some (.v (if q = 0 then x else y).ptr) := by
  have : q = 0 ∨ q = 1 := by omega
  rcases this with rfl | rfl <;> rfl
theorem lt2 (n : Nat) : n % 2 < 2 := Nat.mod_lt _ (by decide)

/- trie.New -/
set_option maxRecDepth 100000 in
set_option maxHeartbeats 400000 in
theorem trie_New  : Triple Try.prog 16 [] [] (fun r h' => ∃ tb rb, r = trieP tb ∧ h' = trieH tb (.node rb 0 .nil .nil) 0) := by
  refine triple_of Try.func16 rfl (by kernel_rfl) rfl (by simp) ?_
  refine aSeq ?_
  refine aReg ?_
  refine sp pMa ?_
  refine oNil ?_
  refine aSeq ?_
  refine aReg ?_
  refine sp (pBuild rfl st_129 ze_129 rfl rfl rfl rfl) ?_
  refine sq ?_
  refine qBox rfl rfl (by decide) rfl rfl (fun b2 => ?_)
  refine sp (pBuild rfl st_54 ze_54 rfl rfl rfl rfl) ?_
  refine sq ?_
  refine qBox rfl rfl (by decide) rfl rfl (fun b4 => ?_)
  refine sp pMa ?_
  refine oNil ?_
  refine aRet ?_
  refine ⟨_, [_, _], _, rfl, .cons .hd (.cons .hd .nil), b4, b2, rfl, rfl⟩

/- trie.Trie).is -/
set_option maxRecDepth 100000 in
set_option maxHeartbeats 400000 in
theorem trie_is (T : AT) (cnt : Int) : Triple Try.prog 69 [.sp [.v T.ptr, .int cnt]] [] (fun r h' => r = .v (.bool (!T.isNil)) ∧ h' = []) := by
  refine triple_of Try.func69 rfl (by kernel_rfl) rfl (by simp) ?_
  refine aSeq ?_
  refine aReg ?_
  refine sp pMa ?_
  refine oNil ?_
  refine aSeq ?_
  refine aReg ?_
  refine sp pM ?_
  refine sp (by first | exact pPtrNil rfl (.inr rfl) rfl pt_24 rfl rfl | exact pSpNil rfl (.inr rfl) rfl pt_24 rfl) ?_
  refine sp pM ?_
  refine gp pM ?_
  refine gp pNs ?_
  refine gp (pFs fd_54_0) ?_
  refine gr (rS1 ty_52) ?_
  refine gp (pPtrNil rfl (.inr rfl) rfl pt_52 (ptr_nil T) rfl) ?_
  refine sp pK ?_
  refine sp pMa ?_
  refine oNil ?_
  refine aRet ?_
  refine ⟨_, [], _, rfl, .nil, ?_, rfl⟩
  rfl

/- trie.Trie).is -/
set_option maxRecDepth 100000 in
set_option maxHeartbeats 400000 in
theorem trie_is_nil  : Triple Try.prog 69 [.v (.pointer none)] [] (fun r h' => r = .v (.bool false) ∧ h' = []) := by
  refine triple_of Try.func69 rfl (by kernel_rfl) rfl (by simp) ?_
  refine aSeq ?_
  refine aReg ?_
  refine sp pMa ?_
  refine oNil ?_
  refine aSeq ?_
  refine aReg ?_
  refine sp pM ?_
  refine sp (by first | exact pPtrNil rfl (.inr rfl) rfl pt_24 rfl (rfl : _ = false) | exact pSpNil rfl (.inr rfl) rfl pt_24 (rfl : _ = false)) ?_
  refine sp pM ?_
  refine gf ?_
  refine gf ?_
  refine gf ?_
  refine gf ?_
  refine gf ?_
  refine sp pK ?_
  refine sp pMa ?_
  refine oNil ?_
  refine aRet ?_
  refine ⟨_, [], _, rfl, .nil, ?_, rfl⟩
  rfl

/- trie.Trie).at -/
def trie_at_r5_T : Bool × List (List Nat × List Nat) := (true, [([], []), ([], []), ([1], [1]), ([], []), ([2, 3], [2, 3]), ([0], [0]), ([5], [5]), ([6, 4], [4, 6]), ([7], [7]), ([8, 4, 0, 1, 2, 3, 4, 5, 6, 7, 8], [0, 8])])
def trie_at_r5_B : List Nat := [0, 0, 2, 0, 14, 1, 33, 127, 255, 511]
theorem trie_at_r5_t : Go.Proofs.YtkgemkadebgeoaaW.PrintLast.rtab .any (Go.Proofs.YtkgemkadebgeoaaW.PrintLast.opsOf Try.f71 5) = trie_at_r5_T := by kernel_rfl
theorem trie_at_r5_b : Go.Proofs.YtkgemkadebgeoaaW.PrintLast.waitsOk trie_at_r5_T.2 trie_at_r5_B = true := by kernel_rfl
set_option maxRecDepth 100000 in
set_option maxHeartbeats 400000 in
theorem trie_at (tb : Nat) (T : AT) (cnt : Int) (b k : Nat) (hb : b < 2 ^ 32) (hk : k ≤ 32) : Triple Try.prog 71 [trieP tb, .agg (pfxC b k)] (trieH tb T cnt) (fun r h' => r = .v (asub T b 32 k).ptr ∧ h' = trieH tb T cnt) := by
  refine triple_of Try.func71 rfl (by kernel_rfl) rfl (by simp) ?_
  refine aSeq ?_
  refine aReg ?_
  refine sq ?_
  refine qBox rfl rfl (by decide) rfl rfl (fun b3 => ?_)
  refine sp pMa ?_
  refine oNil ?_
  refine aSeq ?_
  refine aReg ?_
  refine sp pM ?_
  refine sp (by first | exact pNv | exact pNs) ?_
  refine sp (by first | exact pFb fd_54_0 | exact pFs fd_54_0) ?_
  refine sr (by first | exact rS1 ty_52 | exact rB1 ty_52 | exact rAr ty_52 | exact rArL ty_52 | exact rArR ty_52 (by first | rfl | exact arrF_len one_len)) ?_
  refine sp pMa ?_
  refine oNil ?_
  refine aSeq ?_
  refine aSeq ?_
  refine aReg ?_
  refine sp pMa ?_
  refine oNil ?_
  refine aBlock ?_
  refine aLoopI (α := Nat × AT) (fun (i, S) => i ≤ k ∧ asub T b 32 i = S) (fun (i, S) => ([(3, .v (.pointer (some ⟨b3, 0, none⟩))), (5, .v S.ptr), (6, .int i)], .box b3 (pfxC b k) :: trieH tb T cnt)) (fun (i, S) => k - i) (0, T) ?_ ?_ ?_
  · skip
    exact ⟨by omega, asub_zero _ _ _⟩
  · skip
    exact weak_env ⟨rfl, rfl, rfl, trivial⟩
  · rintro ⟨i, S⟩ ⟨hi, hS⟩
    skip
    refine aSeq ?_
    refine aSeq ?_
    refine aReg ?_
    refine sp pM ?_
    refine sp (by first | exact pFb fd_29_1 | exact pFs fd_29_1) ?_
    refine sr (by first | exact rS1 ty_3 | exact rB1 ty_3 | exact rAr ty_3 | exact rArL ty_3 | exact rArR ty_3 (by first | rfl | exact arrF_len one_len)) ?_
    refine sp pB ?_
    refine sp pM ?_
    refine oSplitDec 15 rfl (fun c15 => ?_) (fun c15 => ?_)
    · skip
      refine gp pM ?_
      refine gp (pPtrNil rfl (.inr rfl) rfl pt_52 (ptr_nil S) rfl) ?_
      refine sp pK ?_
      refine oNil ?_
      refine aCond rfl (fun c18 => ?_) (fun c18 => ?_)
      · skip
        refine aSkip ?_
        refine aSeq ?_
        refine aBlock ?_
        obtain ⟨a, tv, x, y, rfl⟩ := not_nil (by simpa using c18)
        obtain ⟨rest, hs⟩ := asub_spl i 32 T b hS
        have hst := asub_step i 32 T b (by omega) hS
        refine aDrawT trie_at_r5_t trie_at_r5_b [] 10 #[false, false, false, false, false, false, false, false, false, false] (by kernel_rfl) rfl rfl (fun HT => ?_)
        refine dp HT 0 rfl pM ?_
        refine dp HT 1 rfl (by first | exact pFb fd_29_0 | exact pFs fd_29_0) ?_
        refine dr HT 2 rfl (by first | exact rS1 ty_27 | exact rB1 ty_27 | exact rAr ty_27 | exact rArL ty_27 | exact rArR ty_27 (by first | rfl | exact arrF_len one_len)) ?_
        refine dp HT 3 rfl pM ?_
        skip
        refine dp HT 5 rfl (by first | exact pNv | exact pNs) ?_
        refine dp HT 6 rfl (by first | exact pFb fd_129_1 | exact pFs fd_129_1) ?_
        refine dGo ?_
        refine e1 HT 4 rfl ?_
        refine qCallV rfl rfl (by decide) rfl rfl (lents_refl _) (trie_bit b i hb (by omega)) ?_
        refine ef HT 7 rfl (pIdxA rfl rfl rfl ar_127 (by omega) (by have := lt2 (b / 2 ^ (31 - i)); omega)) ?_
        refine e1 HT 8 rfl ?_
        refine aReadQ (by exact rLdB1 rfl rfl (.tl (.tl hs)) ty_52 (nd_get (lt2 _))) rfl (by decide) ?_
        refine ePure (i := 9) #[true, true, true, true, true, true, true, true, true, true] rfl rfl rfl (HT.any (by kernel_rfl)) (by exact pMa) (by decide) ?_
        refine eE HT ?_
        clear HT
        refine aReg ?_
        refine sp pM ?_
        refine sp pAd ?_
        refine sp pMa ?_
        refine oNil ?_
        exact ⟨(i + 1, _), ⟨by omega, hst⟩, by show k - (i + 1) < k - i; omega, weak_env ⟨rfl, rfl, gInt rfl (by simp), trivial⟩⟩
      · skip
        refine aExit rfl ?_
        refine aSeq ?_
        refine aReg ?_
        refine sp pM ?_
        refine sp pMa ?_
        refine oNil ?_
        refine aRet ?_
        have hkk : asub T b 32 k = S := by
          first
            | (have hik : i = k := by omega
               subst hik
               exact hS)
            | (have := is_nil (S := S) (by simpa using c18)
               subst this
               exact asub_nil_le i k T hi hS)
        rw [← hkk] at *
        exact ⟨_, trieH tb T cnt, [_], rfl, tk_after (l := [_]), rfl, rfl⟩
    · skip
      refine gf ?_
      refine gf ?_
      refine sp pK ?_
      refine oNil ?_
      refine aCondF rfl ?_
      refine aExit rfl ?_
      refine aSeq ?_
      refine aReg ?_
      refine sp pM ?_
      refine sp pMa ?_
      refine oNil ?_
      refine aRet ?_
      have hkk : asub T b 32 k = S := by
        first
          | (have hik : i = k := by omega
             subst hik
             exact hS)
          | (have := is_nil (S := S) (by simpa using c18)
             subst this
             exact asub_nil_le i k T hi hS)
      rw [← hkk] at *
      exact ⟨_, trieH tb T cnt, [_], rfl, tk_after (l := [_]), rfl, rfl⟩

/-- What a prefix leads to. -/
def getA (T : PT) (b : Nat) (n : Int) : Int := if okP b n then (sub T b 32 n.toNat).tv else 0
theorem shape_tv {a : Nat} {tv : Int} {x y : AT} {T : AT} {b k : Nat} (h : asub T b 32 k = .node a tv x y) : (sub T.shape b 32 k).tv = tv := by rw [← asub_shape, h]; rfl
theorem shape_tv_nil {T : AT} {b k : Nat} (h : (asub T b 32 k).isNil = true) : (sub T.shape b 32 k).tv = 0 := by rw [← asub_shape, is_nil h]; rfl

/- trie.Trie).Get -/
set_option maxRecDepth 100000 in
set_option maxHeartbeats 400000 in
theorem trie_Get (tb : Nat) (T : AT) (cnt : Int) (b : Nat) (n : Int) (hb : b < 2 ^ 32) (hT : T.isNil = false) : Triple Try.prog 19 [trieP tb, .agg (pfxC b n)] (trieH tb T cnt) (fun r h' => r = .tup [.int (getA T.shape b n), .v (.bool (getA T.shape b n != 0))] ∧ h' = trieH tb T cnt) := by
  refine triple_of Try.func19 rfl (by kernel_rfl) rfl (by simp) ?_
  refine aSeq ?_
  refine aReg ?_
  refine sq ?_
  refine qBox rfl rfl (by decide) rfl rfl (fun b3 => ?_)
  refine sp pMa ?_
  refine sp pMa ?_
  refine oNil ?_
  refine aSeq ?_
  refine aSeq ?_
  refine aReg ?_
  refine sp pM ?_
  refine sq ?_
  refine qCallV rfl rfl (by decide) rfl rfl (.cons (.sp (by simp)) .nil) (trie_is T cnt) ?_
  rw [hT]
  refine sp pNo ?_
  refine sp pM ?_
  refine gr (by first | exact rBWa ty_29 | exact rBW ty_29 | exact rBA ty_29) ?_
  refine ga ?_
  refine (qCallV rfl rfl (by decide) rfl rfl (lents_refl _) (prefix_Check b n hb) ?_).op
  refine gp pB ?_
  refine sp pK ?_
  refine oNil ?_
  refine aCondNe rfl (fun c14 => ?_) (fun c14 => ?_)
  · skip
    refine aSeq ?_
    refine aReg ?_
    refine sp pMa ?_
    refine sp pMa ?_
    refine oNil ?_
    refine aRet ?_
    have hz : getA T.shape b n = 0 := by
      rw [getA, if_neg]
      intro h
      rw [h] at c14
      exact c14 rfl
    rw [hz]
    exact ⟨_, trieH tb T cnt, [_], rfl, tk_after (l := [_]), rfl, rfl⟩
  · skip
    refine aSkip ?_
    refine aSeq ?_
    have hok : okP b n = true := by
      cases h : okP b n with
      | true => rfl
      | false => rw [h] at c14; exact absurd c14 (by decide)
    obtain ⟨k1, k2, k3⟩ := okP_iff.1 hok
    obtain ⟨m, rfl⟩ : ∃ m : Nat, n = m := ⟨n.toNat, by omega⟩
    have hg : getA T.shape b m = (sub T.shape b 32 m).tv := by rw [getA, if_pos hok]; rfl
    refine aReg ?_
    refine sp pM ?_
    refine sr (by first | exact rBWa ty_29 | exact rBW ty_29 | exact rBA ty_29) ?_
    refine sa ?_
    refine aCallTail (hfr := [_]) (hin := trieH tb T cnt) rfl rfl (by decide) rfl rfl (trie_at tb T cnt b m hb (by omega)) ?_
    rintro _ _ ⟨rfl, rfl⟩
    refine sp pMa ?_
    refine oNil ?_
    refine aSeq ?_
    refine aSeq ?_
    refine aReg ?_
    refine sp pM ?_
    refine sp (pPtrNil rfl (.inl rfl) rfl pt_52 (ptr_nil (asub T b 32 m)) rfl) ?_
    refine sp pM ?_
    refine oSplit 20 rfl (fun c20 => ?_) (fun c20 => ?_)
    · skip
      refine gf ?_
      refine gf ?_
      refine gf ?_
      refine gf ?_
      refine gf ?_
      refine sp pK ?_
      refine oNil ?_
      refine aCondT rfl ?_
      refine aSeq ?_
      refine aReg ?_
      refine sp pMa ?_
      refine sp pMa ?_
      refine oNil ?_
      refine aRet ?_
      rw [show getA T.shape b m = 0 by rw [hg]; first | exact shape_tv_nil (by simpa using c20) | (rw [shape_tv hS]; assumption)]
      exact ⟨_, trieH tb T cnt, [_], rfl, tk_after (l := [_]), rfl, rfl⟩
    · skip
      refine gp pM ?_
      obtain ⟨a, tv, x, y, hS⟩ := not_nil (S := asub T b 32 m) (by simpa using c20)
      rw [hS]
      obtain ⟨rest, hs⟩ := asub_spl m 32 T b hS
      refine gp (by first | exact pNv | exact pNs) ?_
      refine gp (by first | exact pFb fd_129_0 | exact pFs fd_129_0) ?_
      refine gr (rLdB1 rfl rfl (.tl (.tl hs)) ty_3 rfl) ?_
      refine gp pB ?_
      refine sp pK ?_
      refine oNil ?_
      refine aCondEq rfl (fun c26 => ?_) (fun c26 => ?_)
      · skip
        refine aSeq ?_
        refine aReg ?_
        refine sp pMa ?_
        refine sp pMa ?_
        refine oNil ?_
        refine aRet ?_
        rw [show getA T.shape b m = 0 by rw [hg]; first | exact shape_tv_nil (by simpa using c20) | (rw [shape_tv hS]; assumption)]
        exact ⟨_, trieH tb T cnt, [_], rfl, tk_after (l := [_]), rfl, rfl⟩
      · skip
        refine aSkip ?_
        refine aSeq ?_
        refine aReg ?_
        refine sp pM ?_
        refine sp (by first | exact pNv | exact pNs) ?_
        refine sp (by first | exact pFb fd_129_0 | exact pFs fd_129_0) ?_
        refine sr (rLdB1 rfl rfl (.tl (.tl hs)) ty_3 rfl) ?_
        refine sp pMa ?_
        refine sp pMa ?_
        refine oNil ?_
        refine aRet ?_
        rw [show getA T.shape b m = tv by rw [hg, shape_tv hS]]
        refine ⟨_, trieH tb T cnt, [_], rfl, tk_after (l := [_]), ?_, rfl⟩
        show AV.tup [.int tv, .v (.bool true)] = _
        rw [show (tv != 0) = true by simpa using c26]

end A
end Go.Proofs.Ytkgemkadebgeoaa
