/- What functions of the program compute: trie42e -/
import Derived.Test.YtkgemkadebgeoaaBtrie42d
import Derived.Test.YtkgemkadebgeoaaProg
import Derived.KernelRfl
set_option linter.unusedVariables false
set_option linter.unusedSimpArgs false
namespace Go.Proofs.Ytkgemkadebgeoaa
namespace A

def AllQ (S : AT) (B r : Nat) : AV → List HA → Prop := fun v h' => ∃ g c, v = .v (slV g (allT S.shape B r).length c) ∧ h' = .sl g c 31 3 ((allT S.shape B r).map entC) :: S.heap
theorem tk_mid2 {a : HA} {l : List HA} : Tk (a :: l) l [a] := tk_after (l := [a])
theorem all_left {h1 x y : List HA} {a b c d : HA} : ((a :: x) ++ (b :: c :: d :: y)).Perm (a :: b :: c :: d :: (x ++ y)) :=
  List.Perm.cons _ (List.perm_middle.trans (List.Perm.cons _ (List.perm_middle.trans (List.Perm.cons _ List.perm_middle))))
theorem all_right {x y : List HA} {a b c d e : HA} : ((a :: y) ++ (b :: c :: d :: e :: x)).Perm (a :: b :: c :: d :: e :: (x ++ y)) :=
  List.Perm.cons _ (List.perm_middle.trans (List.Perm.cons _ (List.perm_middle.trans (List.Perm.cons _ (List.perm_middle.trans (List.Perm.cons _ (List.perm_middle.trans (List.Perm.cons _ List.perm_append_comm))))))))
theorem allT_len {t : PT} {B r : Nat} : (allT t B (r + 1)).length = (one t.tv B (r + 1)).length + ((allT t.l B r).length + (allT t.r (B + 2 ^ r) r).length) := by rw [allT_step]; simp

/- trie.all -/
def trie_all1_r5_T : Bool × List (List Nat × List Nat) := (true, [([], []), ([], []), ([], []), ([2], [2]), ([3], [3]), ([4], [4]), ([1, 5], [1, 5]), ([6], [6]), ([0, 7], [0, 7]), ([8, 8, 0, 1, 2, 3, 4, 5, 6, 7, 8], [0, 8])])
def trie_all1_r5_B : List Nat := [0, 0, 0, 4, 12, 28, 62, 126, 255, 511]
theorem trie_all1_r5_t : Go.Proofs.YtkgemkadebgeoaaW.PrintLast.rtab .any (Go.Proofs.YtkgemkadebgeoaaW.PrintLast.opsOf Try.f76 5) = trie_all1_r5_T := by kernel_rfl
theorem trie_all1_r5_b : Go.Proofs.YtkgemkadebgeoaaW.PrintLast.waitsOk trie_all1_r5_T.2 trie_all1_r5_B = true := by kernel_rfl
def trie_all1_r8_T : Bool × List (List Nat × List Nat) := (true, [([], []), ([0], [0]), ([], []), ([2], [2]), ([3], [3]), ([4], [4]), ([1, 5], [1, 5]), ([6, 0, 1, 2, 3, 4, 5, 6], [6])])
def trie_all1_r8_B : List Nat := [0, 1, 0, 4, 12, 28, 63, 127]
theorem trie_all1_r8_t : Go.Proofs.YtkgemkadebgeoaaW.PrintLast.rtab .any (Go.Proofs.YtkgemkadebgeoaaW.PrintLast.opsOf Try.f76 8) = trie_all1_r8_T := by kernel_rfl
theorem trie_all1_r8_b : Go.Proofs.YtkgemkadebgeoaaW.PrintLast.waitsOk trie_all1_r8_T.2 trie_all1_r8_B = true := by kernel_rfl
def trie_all1_r9_T : Bool × List (List Nat × List Nat) := (true, [([], []), ([], []), ([1], [1]), ([2], [2]), ([3], [3]), ([4], [4]), ([], []), ([6], [6]), ([], []), ([8], [8]), ([9], [9]), ([7, 10], [7, 10]), ([5, 11], [5, 11]), ([0, 12, 12], [0, 12]), ([13, 13, 0, 1, 2, 3, 4, 5, 6, 7, 8, 9, 10, 11, 12, 13], [0, 13])])
def trie_all1_r9_B : List Nat := [0, 0, 2, 6, 14, 30, 0, 64, 0, 256, 768, 1984, 4094, 8191, 16383]
theorem trie_all1_r9_t : Go.Proofs.YtkgemkadebgeoaaW.PrintLast.rtab .any (Go.Proofs.YtkgemkadebgeoaaW.PrintLast.opsOf Try.f76 9) = trie_all1_r9_T := by kernel_rfl
theorem trie_all1_r9_b : Go.Proofs.YtkgemkadebgeoaaW.PrintLast.waitsOk trie_all1_r9_T.2 trie_all1_r9_B = true := by kernel_rfl
def trie_all1_r10_T : Bool × List (List Nat × List Nat) := (true, [([], []), ([], []), ([1], [1]), ([2], [2]), ([3], [3]), ([4], [4]), ([], []), ([], []), ([7], [7]), ([8], [8]), ([6, 9], [6, 9]), ([5, 10], [5, 10]), ([0, 11, 11], [0, 11]), ([12, 12, 0, 1, 2, 3, 4, 5, 6, 7, 8, 9, 10, 11, 12], [12])])
def trie_all1_r10_B : List Nat := [0, 0, 2, 6, 14, 30, 0, 0, 128, 384, 960, 2046, 4095, 8191]
theorem trie_all1_r10_t : Go.Proofs.YtkgemkadebgeoaaW.PrintLast.rtab .any (Go.Proofs.YtkgemkadebgeoaaW.PrintLast.opsOf Try.f76 10) = trie_all1_r10_T := by kernel_rfl
theorem trie_all1_r10_b : Go.Proofs.YtkgemkadebgeoaaW.PrintLast.waitsOk trie_all1_r10_T.2 trie_all1_r10_B = true := by kernel_rfl
set_option maxRecDepth 100000 in
set_option maxHeartbeats 1000000 in
theorem trie_all1 (S : AT) (B r : Nat) (hr : r ≤ 32) (hB : B % 2 ^ r = 0) (hB2 : B + 2 ^ r ≤ 2 ^ 32) (hlen : (allT S.shape B r).length ≤ 4000) (ih : ∀ q, r = q + 1 → ∀ (S' : AT) (B' : Nat) (n : Int), n = ((32 - q : Nat) : Int) → B' % 2 ^ q = 0 → B' + 2 ^ q ≤ 2 ^ 32 → (allT S'.shape B' q).length ≤ 4000 → Triple Try.prog 76 [.v S'.ptr, .agg (pfxC B' n)] S'.heap (AllQ S' B' q)) : Triple Try.prog 76 [.v S.ptr, .agg (pfxC B (32 - r : Nat))] S.heap (AllQ S B r) := by
  refine triple_of Try.func76 rfl (by kernel_rfl) rfl (by simp) ?_
  refine aSeq ?_
  refine aReg ?_
  refine sq ?_
  refine qBox rfl rfl (by decide) rfl rfl (fun b3 => ?_)
  refine sp pMa ?_
  refine oNil ?_
  refine aSeq ?_
  refine aSeq ?_
  refine aReg ?_
  refine sp pM ?_
  refine sp (pPtrNil rfl (.inl rfl) rfl pt_52 (ptr_nil S) rfl) ?_
  refine oNil ?_
  refine aCond rfl (fun c8 => ?_) (fun c8 => ?_)
  · skip
    refine aSeq ?_
    refine aReg ?_
    refine sp pMa ?_
    refine oNil ?_
    refine aWeak (weak_nil 31 3) ?_
    refine aRet ?_
    obtain rfl := is_nil (S := S) (by simpa using c8)
    have hz : allT (AT.nil).shape B r = [] := by cases r <;> rfl
    exact ⟨_, [.sl none 0 31 3 []], _, rfl, .cons .hd .nil, none, 0, by rw [hz]; rfl, by rw [hz]; rfl⟩
  · skip
    refine aSkip ?_
    refine aSeq ?_
    obtain ⟨nb, tv, x, y, rfl⟩ := not_nil (S := S) (by simpa using c8)
    refine aReg ?_
    refine sp pMa ?_
    refine oNil ?_
    refine aCutI (α := Option Nat × Nat) (fun (g, c) => True) (fun (g, c) => ([(0, .v (.pointer (some ⟨nb, 0, none⟩))), (3, .v (.pointer (some ⟨b3, 0, none⟩))), (5, .v (slV g (one tv B r).length c))], .sl g c 31 3 ((one tv B r).map entC) :: .box b3 (pfxC B (32 - r : Nat)) :: (AT.node nb tv x y).heap)) ?_ ?_
    · skip
      refine aSeq ?_
      refine aWeak (weak_nil 31 3) ?_
      refine aReg ?_
      refine sp pM ?_
      refine sp (by first | exact pNv | exact pNs) ?_
      refine sp (by first | exact pFb fd_129_0 | exact pFs fd_129_0) ?_
      refine sr (by first | exact rS1 ty_3 | exact rB1 ty_3 | exact rAr ty_3 | exact rArL ty_3 | exact rArR ty_3 (by first | rfl | exact arrF_len one_len)) ?_
      refine sp pB ?_
      refine oNil ?_
      refine aCondNe rfl (fun c13 => ?_) (fun c13 => ?_)
      · skip
        refine aDrawT trie_all1_r5_t trie_all1_r5_b [8] 10 #[false, false, false, false, false, false, false, false, false, false] (by kernel_rfl) rfl rfl (fun HT => ?_)
        refine dp HT 0 rfl pM ?_
        refine dr HT 1 rfl (by first | exact rBWa ty_29 | exact rBW ty_29 | exact rBA ty_29) ?_
        refine dp HT 2 rfl pM ?_
        refine dp HT 3 rfl (by first | exact pNv | exact pNs) ?_
        refine dp HT 4 rfl (by first | exact pFb fd_129_0 | exact pFs fd_129_0) ?_
        refine dr HT 5 rfl (by first | exact rS1 ty_3 | exact rB1 ty_3 | exact rAr ty_3 | exact rArL ty_3 | exact rArR ty_3 (by first | rfl | exact arrF_len one_len)) ?_
        refine dp HT 6 rfl (pBuild rfl st_31 ze_31 rfl rfl rfl rfl) ?_
        refine dGo ?_
        refine e1 HT 7 rfl ?_
        refine qLit (l := [_]) rfl rfl (by decide) us_26 ty_31 ze_31 rfl (by decide) (by decide) rfl rfl rfl (fun b21 => ?_)
        refine eLast ?_
        refine f1 HT 8 rfl ?_
        refine oApp rfl rfl (by decide) rfl (.tl .hd) (by simp) (srcOwn rfl (by repeat constructor) (by first | rfl | simp)) el_26 sl_26 (by intro z hz; rcases List.mem_cons.1 hz with rfl | hz; rfl; cases hz) (by first | (simp; done) | (simp; omega)) (by first | (simp; done) | (simp; omega)) (fun g22 k22 => ?_)
        refine fp HT 9 rfl pMa ?_
        refine fE HT ?_
        clear HT
        first
          | (have ho : one tv B r = [⟨B, 32 - r, tv⟩] := by rw [one, if_neg (by assumption)]
             refine ⟨(g22, k22), trivial, ?_⟩
             dsimp only
             rw [ho]
             exact weak_sub ⟨rfl, rfl, rfl, trivial⟩ (.cons .hd (.cons (.tl .hd) tk_mid2)))
          | (have ho : one tv B r = [] := by rw [one, if_pos (by assumption)]
             refine ⟨(none, 0), trivial, ?_⟩
             dsimp only
             rw [ho]
             exact weak_env ⟨rfl, rfl, rfl, trivial⟩)
      · skip
        refine aSkip ?_
        first
          | (have ho : one tv B r = [⟨B, 32 - r, tv⟩] := by rw [one, if_neg (by assumption)]
             refine ⟨(g22, k22), trivial, ?_⟩
             dsimp only
             rw [ho]
             exact weak_sub ⟨rfl, rfl, rfl, trivial⟩ (.cons .hd (.cons (.tl .hd) tk_mid2)))
          | (have ho : one tv B r = [] := by rw [one, if_pos (by assumption)]
             refine ⟨(none, 0), trivial, ?_⟩
             dsimp only
             rw [ho]
             exact weak_env ⟨rfl, rfl, rfl, trivial⟩)
    · rintro ⟨g, c⟩ _
      skip
      refine aSeq ?_
      refine aSeq ?_
      refine aReg ?_
      refine sp (by first | exact pFb fd_29_1 | exact pFs fd_29_1) ?_
      refine sr (by first | exact rS1 ty_3 | exact rB1 ty_3 | exact rAr ty_3 | exact rArL ty_3 | exact rArR ty_3 (by first | rfl | exact arrF_len one_len)) ?_
      refine sp pB ?_
      refine oNil ?_
      refine aCondEq rfl (fun c25 => ?_) (fun c25 => ?_)
      · skip
        refine aSeq ?_
        refine aReg ?_
        refine sp pM ?_
        refine sp pMa ?_
        refine oNil ?_
        refine aRet ?_
        have hr0 : r = 0 := by omega
        subst hr0
        refine ⟨_, _ :: (AT.node nb tv x y).heap, [_], rfl, .cons .hd (tk_after (l := [_])), g, c, ?_, ?_⟩
        · rw [allT_zero]; rfl
        · rw [allT_zero]; rfl
      · skip
        refine aSkip ?_
        refine aSeq ?_
        obtain ⟨q, rfl⟩ : ∃ q, r = q + 1 := ⟨r - 1, by omega⟩
        have hp2 := two_pos q
        have hps := pow_s q
        have hal := allT_len (t := (AT.node nb tv x y).shape) (B := B) (r := q)
        have hol : (one tv B (q + 1)).length ≤ 1 := by unfold one; split <;> simp
        simp only [AT.shape, PT.tv, PT.l, PT.r] at hal hlen
        refine aDrawT trie_all1_r8_t trie_all1_r8_b [] 8 #[false, false, false, false, false, false, false, false] (by kernel_rfl) rfl rfl (fun HT => ?_)
        refine dp HT 0 rfl (by first | exact pFb fd_29_0 | exact pFs fd_29_0) ?_
        refine dr HT 1 rfl (by first | exact rS1 ty_27 | exact rB1 ty_27 | exact rAr ty_27 | exact rArL ty_27 | exact rArR ty_27 (by first | rfl | exact arrF_len one_len)) ?_
        refine dp HT 2 rfl (by first | exact pFb fd_29_1 | exact pFs fd_29_1) ?_
        refine dr HT 3 rfl (by first | exact rS1 ty_3 | exact rB1 ty_3 | exact rAr ty_3 | exact rArL ty_3 | exact rArR ty_3 (by first | rfl | exact arrF_len one_len)) ?_
        refine dp HT 4 rfl pSu ?_
        refine dp HT 5 rfl (pShlU (a := 1) (r := q) (c := 2 ^ q) rfl rfl rfl (by omega) (by omega) (by rw [Nat.one_mul]; exact Nat.mod_eq_of_lt (by omega))) ?_
        refine dp HT 6 rfl (pBin rfl rfl rfl rfl ((u32_or (by omega) (by omega)).trans (by rw [or_bit B q hB]))) ?_
        refine dp HT 7 rfl pMa ?_
        refine dE HT ?_
        clear HT
        refine aSeq ?_
        refine aDrawT trie_all1_r9_t trie_all1_r9_b [12, 13] 15 #[false, false, false, false, false, false, false, false, false, false, false, false, false, false, false] (by kernel_rfl) rfl rfl (fun HT => ?_)
        refine dp HT 0 rfl pM ?_
        refine dp HT 1 rfl pM ?_
        refine dp HT 2 rfl (by first | exact pNv | exact pNs) ?_
        refine dp HT 3 rfl (by first | exact pFb fd_129_1 | exact pFs fd_129_1) ?_
        refine dp HT 4 rfl (pIa ar_127) ?_
        refine dr HT 5 rfl (by first | exact rS1 ty_52 | exact rB1 ty_52 | exact rAr ty_52 | exact rArL ty_52 | exact rArR ty_52 (by first | rfl | exact arrF_len one_len)) ?_
        refine dp HT 6 rfl (by first | exact pFb fd_29_0 | exact pFs fd_29_0) ?_
        refine dr HT 7 rfl (by first | exact rS1 ty_27 | exact rB1 ty_27 | exact rAr ty_27 | exact rArL ty_27 | exact rArR ty_27 (by first | rfl | exact arrF_len one_len)) ?_
        refine dp HT 8 rfl (by first | exact pFb fd_29_1 | exact pFs fd_29_1) ?_
        refine dr HT 9 rfl (by first | exact rS1 ty_3 | exact rB1 ty_3 | exact rAr ty_3 | exact rArL ty_3 | exact rArR ty_3 (by first | rfl | exact arrF_len one_len)) ?_
        refine dp HT 10 rfl pAd ?_
        refine dp HT 11 rfl (pBuild rfl st_29 ze_29 rfl rfl rfl rfl) ?_
        refine dGo ?_
        refine eLast ?_
        refine f1 HT 12 rfl ?_
        refine aCall (hin := x.heap) (hfr := _ :: _ :: _ :: y.heap) rfl rfl (by decide) rfl rfl (tk_mid (l := [_, _, _]) (t := x.heap) (r := y.heap)) (ih q rfl x B _ (by omega) (mod_left hB) (by omega) (by omega)) ?_
        rintro _ _ ⟨g1, c1, rfl, rfl⟩
        refine fWeak (weak_perm (all_left (h1 := []))) ?_
        refine f1 HT 13 rfl ?_
        refine oApp rfl rfl (by decide) rfl (by repeat constructor) (by simp) (srcOwn rfl (by repeat constructor) (by first | rfl | simp)) el_26 sl_26 (entC_len _) (by first | (simp; done) | (simp; omega)) (by first | (simp; done) | (simp; omega)) (fun g47 k47 => ?_)
        refine fp HT 14 rfl pMa ?_
        refine fE HT ?_
        clear HT
        refine aSeq ?_
        refine aDrawT trie_all1_r10_t trie_all1_r10_b [11, 12] 14 #[false, false, false, false, false, false, false, false, false, false, false, false, false, false] (by kernel_rfl) rfl rfl (fun HT => ?_)
        refine dp HT 0 rfl pM ?_
        refine dp HT 1 rfl pM ?_
        refine dp HT 2 rfl (by first | exact pNv | exact pNs) ?_
        refine dp HT 3 rfl (by first | exact pFb fd_129_1 | exact pFs fd_129_1) ?_
        refine dp HT 4 rfl (pIa ar_127) ?_
        refine dr HT 5 rfl (by first | exact rS1 ty_52 | exact rB1 ty_52 | exact rAr ty_52 | exact rArL ty_52 | exact rArR ty_52 (by first | rfl | exact arrF_len one_len)) ?_
        refine dp HT 6 rfl pM ?_
        refine dp HT 7 rfl (by first | exact pFb fd_29_1 | exact pFs fd_29_1) ?_
        refine dr HT 8 rfl (by first | exact rS1 ty_3 | exact rB1 ty_3 | exact rAr ty_3 | exact rArL ty_3 | exact rArR ty_3 (by first | rfl | exact arrF_len one_len)) ?_
        refine dp HT 9 rfl pAd ?_
        refine dp HT 10 rfl (pBuild rfl st_29 ze_29 rfl rfl rfl rfl) ?_
        refine dGo ?_
        refine eLast ?_
        refine f1 HT 11 rfl ?_
        refine aCall (hin := y.heap) (hfr := _ :: _ :: _ :: _ :: x.heap) rfl rfl (by decide) rfl rfl (tk_after (l := _ :: _ :: _ :: _ :: x.heap) (r := y.heap)) (ih q rfl y (B + 2 ^ q) _ (by omega) (mod_right hB) (by omega) (by omega)) ?_
        rintro _ _ ⟨g2, c2, rfl, rfl⟩
        refine fWeak (weak_perm all_right) ?_
        refine f1 HT 12 rfl ?_
        refine oApp rfl rfl (by decide) rfl (by repeat constructor) (by simp) (srcOwn rfl (by repeat constructor) (by first | rfl | simp)) el_26 sl_26 (entC_len _) (by first | (simp; done) | (simp; omega)) (by first | (simp; done) | (simp; omega)) (fun g60 k60 => ?_)
        refine fp HT 13 rfl pMa ?_
        refine fE HT ?_
        clear HT
        refine aRet ?_
        have hfin : (allT (AT.node nb tv x y).shape B (q + 1)) = one tv B (q + 1) ++ (allT x.shape B q ++ allT y.shape (B + 2 ^ q) q) := allT_step _ _ _
        refine ⟨_, _ :: (AT.node nb tv x y).heap, _, rfl, .cons .hd (tk_after (l := [_, _, _])), g60, k60, ?_, ?_⟩
        · rw [hfin]
          simp [Nat.add_assoc, retOf]
        · rw [hfin]
          simp [List.append_assoc]

theorem trie_all : ∀ (r : Nat) (S : AT) (B : Nat) (n : Int), n = ((32 - r : Nat) : Int) → r ≤ 32 → B % 2 ^ r = 0 → B + 2 ^ r ≤ 2 ^ 32 → (allT S.shape B r).length ≤ 4000 → Triple Try.prog 76 [.v S.ptr, .agg (pfxC B n)] S.heap (AllQ S B r) := by
  intro r
  induction r with
  | zero =>
    intro S B n hn hr hB hB2 hl
    subst hn
    exact trie_all1 S B 0 hr hB hB2 hl (fun q h => by omega)
  | succ r ih =>
    intro S B n hn hr hB hB2 hl
    subst hn
    exact trie_all1 S B (r + 1) hr hB hB2 hl (fun q h S' B' n hn' hB' hB2' hl' => by
      have e : q = r := by omega
      rw [e] at hn' hB' hB2' hl' ⊢
      exact ih S' B' n hn' (by omega) hB' hB2' hl')
theorem all_tail {x : List HA} {a b : HA} : ((a :: x) ++ [b]).Perm (a :: b :: x) := List.Perm.cons _ (List.perm_append_singleton b x)

/- trie.Trie).All -/
set_option maxRecDepth 100000 in
set_option maxHeartbeats 400000 in
theorem trie_All (tb : Nat) (T : AT) (cnt : Int) (hT : T.isNil = false) (hl : (allT T.shape 0 32).length ≤ 4000) : Triple Try.prog 26 [trieP tb] (trieH tb T cnt) (fun r h' => ∃ g c, r = .v (slV g (allT T.shape 0 32).length c) ∧ h' = .sl g c 31 3 ((allT T.shape 0 32).map entC) :: trieH tb T cnt) := by
  refine triple_of Try.func26 rfl (by kernel_rfl) rfl (by simp) ?_
  refine aSeq ?_
  refine aReg ?_
  refine sp pMa ?_
  refine oNil ?_
  refine aSeq ?_
  refine aSeq ?_
  refine aReg ?_
  refine sp pM ?_
  refine sq ?_
  refine qCallV rfl rfl (by decide) rfl rfl (.cons (.sp (by simp)) .nil) (trie_is T cnt) ?_
  rw [hT]
  refine sp pNo ?_
  refine oNil ?_
  refine aCondF rfl ?_
  refine aSkip ?_
  refine aSeq ?_
  refine aReg ?_
  refine sp pM ?_
  refine sp (by first | exact pNv | exact pNs) ?_
  refine sp (by first | exact pFb fd_54_0 | exact pFs fd_54_0) ?_
  refine sr (by first | exact rS1 ty_52 | exact rB1 ty_52 | exact rAr ty_52 | exact rArL ty_52 | exact rArR ty_52 (by first | rfl | exact arrF_len one_len)) ?_
  refine sp (pBuild rfl st_29 ze_29 rfl rfl rfl rfl) ?_
  refine sa ?_
  refine aCall (hin := T.heap) (hfr := [_]) rfl rfl (by decide) rfl rfl (tk_after (l := [_])) (trie_all 32 T 0 0 (by decide) (by decide) (by decide) (by decide) hl) ?_
  rintro _ _ ⟨g1, c1, rfl, rfl⟩
  refine oWeak (weak_perm all_tail) ?_
  refine sp pMa ?_
  refine oNil ?_
  refine aRet ?_
  exact ⟨_, _ :: trieH tb T cnt, [], rfl, tk_refl, g1, c1, rfl, rfl⟩

/- trie.Trie).All -/
set_option maxRecDepth 100000 in
set_option maxHeartbeats 400000 in
theorem trie_All_nil  : Triple Try.prog 26 [.v (.pointer none)] [] (fun r h' => r = .v (slV none 0 0) ∧ h' = []) := by
  refine triple_of Try.func26 rfl (by kernel_rfl) rfl (by simp) ?_
  refine aSeq ?_
  refine aReg ?_
  refine sp pMa ?_
  refine oNil ?_
  refine aSeq ?_
  refine aSeq ?_
  refine aReg ?_
  refine sp pM ?_
  refine sq ?_
  refine qCallV rfl rfl (by decide) rfl rfl (lents_refl _) trie_is_nil ?_
  refine sp pNo ?_
  refine oNil ?_
  refine aCondT rfl ?_
  refine aSeq ?_
  refine aReg ?_
  refine sp pMa ?_
  refine oNil ?_
  refine aRet ?_
  exact ⟨_, [], _, rfl, .nil, rfl, rfl⟩

end A
end Go.Proofs.Ytkgemkadebgeoaa
