/- What functions of the program compute: trie42d -/
import Derived.Test.YtkgemkadebgeoaaBtrie42c
import Derived.Test.YtkgemkadebgeoaaProg
import Derived.KernelRfl
set_option linter.unusedVariables false
set_option linter.unusedSimpArgs false
namespace Go.Proofs.Ytkgemkadebgeoaa
namespace A

theorem findT_isNil {S : PT} {a r : Nat} {e : Ent} (h : S.isNil = true) : findT S a r e = e := by cases S with | nil => rfl | node _ _ _ => cases h

/- trie.Trie).Find -/
def trie_Find_r9_T : Bool × List (List Nat × List Nat) := (true, [([], []), ([], []), ([0, 1], [0, 1]), ([], []), ([3], [3]), ([4], [4]), ([5], [5]), ([2, 6], [2, 6]), ([7, 2, 0, 1, 2, 3, 4, 5, 6, 7], [7])])
def trie_Find_r9_B : List Nat := [0, 0, 3, 0, 8, 24, 56, 127, 255]
theorem trie_Find_r9_t : Go.Proofs.YtkgemkadebgeoaaW.PrintLast.rtab .any (Go.Proofs.YtkgemkadebgeoaaW.PrintLast.opsOf Try.f23 9) = trie_Find_r9_T := by kernel_rfl
theorem trie_Find_r9_b : Go.Proofs.YtkgemkadebgeoaaW.PrintLast.waitsOk trie_Find_r9_T.2 trie_Find_r9_B = true := by kernel_rfl
def trie_Find_r11_T : Bool × List (List Nat × List Nat) := (true, [([], []), ([], []), ([], []), ([1, 2], [1, 2]), ([0], [0]), ([4], [4]), ([5, 3], [3, 5]), ([6], [6]), ([7, 3, 0, 1, 2, 3, 4, 5, 6, 7], [0, 7])])
def trie_Find_r11_B : List Nat := [0, 0, 0, 6, 1, 17, 63, 127, 255]
theorem trie_Find_r11_t : Go.Proofs.YtkgemkadebgeoaaW.PrintLast.rtab .any (Go.Proofs.YtkgemkadebgeoaaW.PrintLast.opsOf Try.f23 11) = trie_Find_r11_T := by kernel_rfl
theorem trie_Find_r11_b : Go.Proofs.YtkgemkadebgeoaaW.PrintLast.waitsOk trie_Find_r11_T.2 trie_Find_r11_B = true := by kernel_rfl
def trie_Find_r12_T : Bool × List (List Nat × List Nat) := (true, [([], []), ([], []), ([1], [1]), ([2], [2]), ([0, 0], [0]), ([3, 4, 0, 1, 2, 3, 4], [3])])
def trie_Find_r12_B : List Nat := [0, 0, 2, 6, 1, 31]
theorem trie_Find_r12_t : Go.Proofs.YtkgemkadebgeoaaW.PrintLast.rtab .any (Go.Proofs.YtkgemkadebgeoaaW.PrintLast.opsOf Try.f23 12) = trie_Find_r12_T := by kernel_rfl
theorem trie_Find_r12_b : Go.Proofs.YtkgemkadebgeoaaW.PrintLast.waitsOk trie_Find_r12_T.2 trie_Find_r12_B = true := by kernel_rfl
set_option maxRecDepth 100000 in
set_option maxHeartbeats 1000000 in
theorem trie_Find (tb : Nat) (T : AT) (cnt : Int) (a : Nat) (ha : a < 2 ^ 32) (hT : T.isNil = false) : Triple Try.prog 23 [trieP tb, u32 a] (trieH tb T cnt) (fun r h' => r = .tup [.agg (entC (findT T.shape a 32 ⟨0, 0, 0⟩)), .v (.bool ((findT T.shape a 32 ⟨0, 0, 0⟩).tv != 0))] ∧ h' = trieH tb T cnt) := by
  refine triple_ofR Try.func23 rfl (by kernel_rfl) rfl (by simp) ?_
  refine aSeq ?_
  refine aReg ?_
  refine sq ?_
  refine qAlloc rfl rfl (by decide) ze_31 rfl (fun b4 => ?_)
  refine sp pMa ?_
  refine oNil ?_
  refine aSeq ?_
  refine aSeq ?_
  refine aReg ?_
  refine sp pM ?_
  refine sq ?_
  refine qCallV rfl rfl (by decide) rfl rfl (.cons (.sp (by simp)) .nil) (trie_is T cnt) ?_
  rw [hT]
  refine sp pNo ?_
  refine oNil ?_
  refine aCondF rfl ?_
  refine aSkip ?_
  refine aSeq ?_
  refine aReg ?_
  refine sq ?_
  refine qAlloc rfl rfl (by decide) ze_31 rfl (fun b6 => ?_)
  refine oNil ?_
  refine aSeq ?_
  refine aReg ?_
  refine sp pM ?_
  refine sp (by first | exact pNv | exact pNs) ?_
  refine sp (by first | exact pFb fd_54_0 | exact pFs fd_54_0) ?_
  refine sr (by first | exact rS1 ty_52 | exact rB1 ty_52 | exact rAr ty_52 | exact rArL ty_52 | exact rArR ty_52 (by first | rfl | exact arrF_len one_len)) ?_
  refine sp pMa ?_
  refine oNil ?_
  refine aCutI (α := Ent) (fun e => findT T.shape a 32 ⟨0, 0, 0⟩ = e) (fun e => ([(4, .v (.pointer (some ⟨b4, 0, none⟩))), (6, .v (.pointer (some ⟨b6, 0, none⟩)))], .box b6 (entC e) :: .box b4 (entC ⟨0, 0, 0⟩) :: trieH tb T cnt)) ?_ ?_
  · skip
    refine aSeq ?_
    refine aReg ?_
    refine sp pMa ?_
    refine oNil ?_
    refine aBlock ?_
    refine aLoopI (α := Nat × AT × Ent) (fun (i, S, e) => i ≤ 32 ∧ asub T a 32 i = S ∧ findT T.shape a 32 ⟨0, 0, 0⟩ = findT S.shape a (32 - i) e) (fun (i, S, e) => ([(0, trieP tb), (1, u32 a), (4, .v (.pointer (some ⟨b4, 0, none⟩))), (6, .v (.pointer (some ⟨b6, 0, none⟩))), (7, .v S.ptr), (8, .int i)], .box b6 (entC e) :: .box b4 (entC ⟨0, 0, 0⟩) :: trieH tb T cnt)) (fun (i, S, e) => 33 - i) (0, T, ⟨0, 0, 0⟩) ?_ ?_ ?_
    · skip
      exact ⟨by omega, asub_zero _ _ _, rfl⟩
    · skip
      exact weak_env ⟨rfl, rfl, rfl, rfl, rfl, rfl, trivial⟩
    · rintro ⟨i, S, e⟩ ⟨hi, hS, hv⟩
      skip
      refine aSeq ?_
      refine aSeq ?_
      refine aReg ?_
      refine sp pM ?_
      refine sp (pPtrNil rfl (.inr rfl) rfl pt_52 (ptr_nil S) rfl) ?_
      refine oNil ?_
      refine aCond rfl (fun c18 => ?_) (fun c18 => ?_)
      · skip
        refine aSkip ?_
        refine aSeq ?_
        refine aBlock ?_
        refine aCutI (α := Nat × Int × AT × AT) (fun (nb, tv, x, y) => S = .node nb tv x y) (fun (nb, tv, x, y) => ([(0, trieP tb), (1, u32 a), (4, .v (.pointer (some ⟨b4, 0, none⟩))), (6, .v (.pointer (some ⟨b6, 0, none⟩))), (7, .v (.pointer (some ⟨nb, 0, none⟩))), (8, .int i)], .box b6 (entC (upE tv a (32 - i) e)) :: .box b4 (entC ⟨0, 0, 0⟩) :: trieH tb T cnt)) ?_ ?_
        · skip
          refine aSeq ?_
          obtain ⟨nb, tv, x, y, rfl⟩ := not_nil (S := S) (by simpa using c18)
          obtain ⟨rest, hs⟩ := asub_spl i 32 T a hS
          refine aReg ?_
          refine sp pM ?_
          refine sp (by first | exact pNv | exact pNs) ?_
          refine sp (by first | exact pFb fd_129_0 | exact pFs fd_129_0) ?_
          refine sr (rLdB1 rfl rfl (.tl (.tl (.tl hs))) ty_3 rfl) ?_
          refine sp pB ?_
          refine oNil ?_
          refine aCondNe rfl (fun c25 => ?_) (fun c25 => ?_)
          · skip
            refine aDrawT trie_Find_r9_t trie_Find_r9_b [8] 9 #[false, false, false, false, false, false, false, false, false] (by kernel_rfl) rfl rfl (fun HT => ?_)
            refine dp HT 0 rfl pM ?_
            refine dp HT 1 rfl pM ?_
            refine dp HT 3 rfl pM ?_
            refine dp HT 4 rfl (by first | exact pNv | exact pNs) ?_
            refine dp HT 5 rfl (by first | exact pFb fd_129_0 | exact pFs fd_129_0) ?_
            refine dr HT 6 rfl (rLdB1 rfl rfl (.tl (.tl (.tl hs))) ty_3 rfl) ?_
            refine dGo ?_
            refine e1 HT 2 rfl ?_
            refine qCall0 rfl rfl (by decide) rfl rfl (prefix_Cut a i ha (by omega)) ?_
            rintro _ _ ⟨rfl, rfl⟩
            refine ef HT 7 rfl (pBuild rfl st_31 ze_31 rfl rfl rfl rfl) ?_
            refine eLast ?_
            refine f1 HT 8 rfl ?_
            refine oStW rfl rfl rfl rfl (by repeat constructor) ty_31 ?_
            refine fE HT ?_
            clear HT
            first
              | (have hz : upE tv a (32 - i) e = ⟨cutN a (32 - i), i, tv⟩ := by rw [upE, if_neg (by assumption)]; congr 1; omega
                 refine ⟨(nb, tv, x, y), rfl, ?_⟩
                 dsimp only
                 rw [hz]
                 exact weak_env ⟨rfl, rfl, rfl, rfl, rfl, rfl, trivial⟩)
              | (have hz : upE tv a (32 - i) e = e := by rw [upE, if_pos (by omega)]
                 refine ⟨(nb, tv, x, y), rfl, ?_⟩
                 dsimp only
                 rw [hz]
                 exact weak_env ⟨rfl, rfl, rfl, rfl, rfl, rfl, trivial⟩)
          · skip
            refine aSkip ?_
            first
              | (have hz : upE tv a (32 - i) e = ⟨cutN a (32 - i), i, tv⟩ := by rw [upE, if_neg (by assumption)]; congr 1; omega
                 refine ⟨(nb, tv, x, y), rfl, ?_⟩
                 dsimp only
                 rw [hz]
                 exact weak_env ⟨rfl, rfl, rfl, rfl, rfl, rfl, trivial⟩)
              | (have hz : upE tv a (32 - i) e = e := by rw [upE, if_pos (by omega)]
                 refine ⟨(nb, tv, x, y), rfl, ?_⟩
                 dsimp only
                 rw [hz]
                 exact weak_env ⟨rfl, rfl, rfl, rfl, rfl, rfl, trivial⟩)
        · rintro ⟨nb, tv, x, y⟩ hSe
          subst hSe
          obtain ⟨rest, hs⟩ := asub_spl i 32 T a hS
          refine aSeq ?_
          refine aSeq ?_
          refine aReg ?_
          refine sp pM ?_
          refine sp pB ?_
          refine oNil ?_
          refine aCondEq rfl (fun c35 => ?_) (fun c35 => ?_)
          · skip
            refine aExit rfl ?_
            first
              | (have hii : i = 32 := by omega
                 subst hii
                 exact ⟨upE tv a (32 - 32) e, by rw [hv]; rfl, weak_env ⟨rfl, rfl, trivial⟩⟩)
              | exact ⟨e, by rw [hv, findT_isNil (by rw [shape_isNil]; simpa using c18)], weak_env ⟨rfl, rfl, trivial⟩⟩
          · skip
            refine aSkip ?_
            refine aDrawT trie_Find_r11_t trie_Find_r11_b [] 9 #[false, false, false, false, false, false, false, false, false] (by kernel_rfl) rfl rfl (fun HT => ?_)
            refine dp HT 0 rfl pM ?_
            refine dp HT 1 rfl pM ?_
            refine dp HT 2 rfl pM ?_
            refine dp HT 4 rfl (by first | exact pNv | exact pNs) ?_
            refine dp HT 5 rfl (by first | exact pFb fd_129_1 | exact pFs fd_129_1) ?_
            refine dGo ?_
            refine e1 HT 3 rfl ?_
            refine qCallV rfl rfl (by decide) rfl rfl (lents_refl _) (trie_bit a i ha (by omega)) ?_
            refine ef HT 6 rfl (pIdxA rfl rfl rfl ar_127 (by omega) (by have := lt2 (a / 2 ^ (31 - i)); omega)) ?_
            refine e1 HT 7 rfl ?_
            refine aReadQ (by exact rLdB1 rfl rfl (.tl (.tl (.tl hs))) ty_52 (nd_get (lt2 _))) rfl (by decide) ?_
            refine ePure (i := 8) #[true, true, true, true, true, true, true, true, true] rfl rfl rfl (HT.any (by kernel_rfl)) (by exact pMa) (by decide) ?_
            refine eE HT ?_
            clear HT
            refine aReg ?_
            refine sp pM ?_
            refine sp pAd ?_
            refine sp pMa ?_
            refine oNil ?_
            have hst := asub_step i 32 T a (by omega) hS
            refine ⟨(i + 1, (if a / 2 ^ (31 - i) % 2 = 0 then x else y), upE tv a (32 - i) e), ⟨by omega, hst, ?_⟩, by show 33 - (i + 1) < 33 - i; omega, weak_env ⟨rfl, rfl, rfl, rfl, rfl, gInt rfl (by simp), trivial⟩⟩
            rw [hv, show 32 - i = (32 - (i + 1)) + 1 by omega]
            show (if a / 2 ^ (32 - (i + 1)) % 2 = 0 then findT x.shape a (32 - (i + 1)) _ else findT y.shape a (32 - (i + 1)) _) = _
            rw [show 32 - (i + 1) = 31 - i by omega]
            split <;> rfl
      · skip
        refine aExit rfl ?_
        first
          | (have hii : i = 32 := by omega
             subst hii
             exact ⟨upE tv a (32 - 32) e, by rw [hv]; rfl, weak_env ⟨rfl, rfl, trivial⟩⟩)
          | exact ⟨e, by rw [hv, findT_isNil (by rw [shape_isNil]; simpa using c18)], weak_env ⟨rfl, rfl, trivial⟩⟩
  · rintro e he
    skip
    refine aSeq ?_
    refine aDrawS (h1 := [.box b6 (entC e)]) trie_Find_r12_t trie_Find_r12_b [] 6 #[false, false, false, false, false, false] (by kernel_rfl) rfl rfl (.cons .hd .nil) (fun HT => ?_)
    refine er HT 0 rfl (by first | exact rSW ty_31 rfl | exact rSA ty_31 | exact rBWa ty_31 | exact rBW ty_31 | exact rBA ty_31 | exact rArA ty_31 (fun _ => rfl)) ?_
    refine ep HT 1 rfl (by first | exact pFb fd_31_1 | exact pFs fd_31_1) ?_
    refine er HT 2 rfl (by first | exact rS1 ty_3 | exact rB1 ty_3 | exact rAr ty_3 | exact rArL ty_3 | exact rArR ty_3 (by first | rfl | exact arrF_len one_len)) ?_
    refine ep HT 3 rfl pB ?_
    refine eOneS (i := 4) #[true, true, true, true, true, false] rfl (HT.one (by kernel_rfl)) (by decide) ?_
    · skip
      refine stA (hx := [.box b4 _]) (wantN rfl) (fun t ht => by cases ht <;> decide) (.cons (.tl .hd) .nil) (by repeat constructor) ?_
      refine oStW rfl rfl rfl rfl (by repeat constructor) ty_31 ?_
      dsimp only [List.cons_append, List.nil_append]
      refine ep HT 5 rfl pMa ?_
      refine eE HT ?_
      clear HT
      refine aRet ?_
      rw [he]
      refine ⟨_, trieH tb T cnt, [_, _], .cons (.cellA (cs := entC e) rfl List.mem_cons_self ty_31) (.cons (.tmp rfl) .nil), tk_after (l := [_, _]), rfl, rfl⟩

end A
end Go.Proofs.Ytkgemkadebgeoaa
