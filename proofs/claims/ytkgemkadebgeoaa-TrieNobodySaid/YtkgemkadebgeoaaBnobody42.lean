/- What functions of the program compute: nobody42 -/
import Derived.Test.YtkgemkadebgeoaaBlaw42
import Derived.Test.YtkgemkadebgeoaaProg
import Derived.KernelRfl
set_option linter.unusedVariables false
set_option linter.unusedSimpArgs false
namespace Go.Proofs.Ytkgemkadebgeoaa
namespace A

def Nob (z : AV) : Prop := Triple Try.prog 69 [z] [] (fun r h' => r = .v (.bool false) ∧ h' = [])
theorem nob_nil : Nob (.v (.pointer none)) := trie_is_nil
theorem nob_sp : Nob (.sp [.v (AT.nil).ptr, .int 0]) := trie_is .nil 0

/- trie.Trie).Find -/
set_option maxRecDepth 100000 in
set_option maxHeartbeats 400000 in
theorem nob_Find (z : AV) (a : Nat) (hz : Nob z) : Triple Try.prog 23 [z, u32 a] [] (fun r h' => r = .tup [.agg (entC ⟨0, 0, 0⟩), .v (.bool false)] ∧ h' = []) := by
  refine triple_ofR Try.func23 rfl (by kernel_rfl) rfl (by simp) ?_
  refine aSeq ?_
  refine aReg ?_
  refine oQ rfl ?_
  refine qAlloc rfl rfl (by decide) ze_31 rfl (fun b4 => ?_)
  refine oP rfl (by exact pMv (.inr rfl) rfl) rfl (by decide) ?_
  refine oNil ?_
  refine aSeq ?_
  refine aSeq ?_
  refine aReg ?_
  refine oP rfl (by exact pMv (.inl rfl) rfl) rfl (by decide) ?_
  refine oQ rfl ?_
  refine qCallV rfl rfl (by decide) rfl rfl (lents_refl _) hz ?_
  refine oP rfl (by exact pNot rfl rfl) rfl (by decide) ?_
  refine oNil ?_
  refine aCondT rfl ?_
  refine aSeq ?_
  refine aReg ?_
  refine oP rfl (by exact pBuild rfl st_31 ze_31 rfl rfl rfl rfl) rfl (by decide) ?_
  refine oA rfl ?_
  refine oStB rfl rfl rfl rfl (by repeat constructor) ty_31 rfl (Nat.le_of_ble_eq_true rfl) rfl ?_
  refine oP rfl (by exact pMv (.inr rfl) rfl) rfl (by decide) ?_
  refine oNil ?_
  refine aRet ?_
  exact ⟨_, [], _, .cons (.cellA (cs := entC ⟨0, 0, 0⟩) rfl List.mem_cons_self ty_31) (.cons (.tmp rfl) .nil), .nil, rfl, rfl⟩

/- trie.Trie).Get -/
set_option maxRecDepth 100000 in
set_option maxHeartbeats 400000 in
theorem nob_Get (z : AV) (b : Nat) (n : Int) (hz : Nob z) : Triple Try.prog 19 [z, .agg (pfxC b n)] [] (fun r h' => r = .tup [.int 0, .v (.bool false)] ∧ h' = []) := by
  refine triple_of Try.func19 rfl (by kernel_rfl) rfl (by simp) ?_
  refine aSeq ?_
  refine aReg ?_
  refine oQ rfl ?_
  refine qBox rfl rfl (by decide) rfl rfl (fun b3 => ?_)
  refine oP rfl (by exact pMv (.inr rfl) rfl) rfl (by decide) ?_
  refine oP rfl (by exact pMv (.inr rfl) rfl) rfl (by decide) ?_
  refine oNil ?_
  refine aSeq ?_
  refine aSeq ?_
  refine aReg ?_
  refine oP rfl (by exact pMv (.inl rfl) rfl) rfl (by decide) ?_
  refine oQ rfl ?_
  refine qCallV rfl rfl (by decide) rfl rfl (lents_refl _) hz ?_
  refine oP rfl (by exact pNot rfl rfl) rfl (by decide) ?_
  refine oP rfl (by exact pMv (.inl rfl) rfl) rfl (by decide) ?_
  refine oGF rfl rfl rfl rfl rfl (by decide) ?_
  refine oGF rfl rfl rfl rfl rfl (by decide) ?_
  refine oGF rfl rfl rfl rfl rfl (by decide) ?_
  refine oP rfl (by exact pPick rfl rfl rfl) rfl (by decide) ?_
  refine oNil ?_
  refine aCondT rfl ?_
  refine aSeq ?_
  refine aReg ?_
  refine oP rfl (by exact pMv (.inr rfl) rfl) rfl (by decide) ?_
  refine oP rfl (by exact pMv (.inr rfl) rfl) rfl (by decide) ?_
  refine oNil ?_
  refine aRet ?_
  refine ⟨_, [], _, rfl, .nil, rfl, rfl⟩

/- trie.Trie).Put -/
set_option maxRecDepth 100000 in
set_option maxHeartbeats 400000 in
theorem nob_Put (z : AV) (b : Nat) (n tv : Int) (hz : Nob z) : Triple Try.prog 22 [z, .agg [u32 b, .int n, .int tv]] [] (fun r h' => r = .v (.int .i64 6) ∧ h' = []) := by
  refine triple_of Try.func22 rfl (by kernel_rfl) rfl (by simp) ?_
  refine aSeq ?_
  refine aReg ?_
  refine oQ rfl ?_
  refine qBox rfl rfl (by decide) rfl rfl (fun b3 => ?_)
  refine oP rfl (by exact pMv (.inr rfl) rfl) rfl (by decide) ?_
  refine oNil ?_
  refine aSeq ?_
  refine aBlock ?_
  refine aSeq ?_
  refine aReg ?_
  refine oP rfl (by exact pMv (.inl rfl) rfl) rfl (by decide) ?_
  refine oQ rfl ?_
  refine qCallV rfl rfl (by decide) rfl rfl (lents_refl _) hz ?_
  refine oP rfl (by exact pNot rfl rfl) rfl (by decide) ?_
  refine oP rfl (by exact pMv (.inr rfl) rfl) rfl (by decide) ?_
  refine oNil ?_
  refine aCondT rfl ?_
  refine aSeq ?_
  refine aReg ?_
  refine oP rfl (by exact pMv (.inr rfl) rfl) rfl (by decide) ?_
  refine oNil ?_
  refine aRet ?_
  refine ⟨_, [], _, rfl, .nil, rfl, rfl⟩

/- trie.Trie).Drop -/
set_option maxRecDepth 100000 in
set_option maxHeartbeats 400000 in
theorem nob_Drop (z : AV) (b : Nat) (n : Int) (hz : Nob z) : Triple Try.prog 20 [z, .agg (pfxC b n)] [] (fun r h' => r = .v (.int .i64 6) ∧ h' = []) := by
  refine triple_of Try.func20 rfl (by kernel_rfl) rfl (by simp) ?_
  refine aSeq ?_
  refine aReg ?_
  refine oQ rfl ?_
  refine qBox rfl rfl (by decide) rfl rfl (fun b3 => ?_)
  refine oP rfl (by exact pMv (.inr rfl) rfl) rfl (by decide) ?_
  refine oNil ?_
  refine aSeq ?_
  refine aSeq ?_
  refine aReg ?_
  refine oP rfl (by exact pMv (.inl rfl) rfl) rfl (by decide) ?_
  refine oQ rfl ?_
  refine qCallV rfl rfl (by decide) rfl rfl (lents_refl _) hz ?_
  refine oP rfl (by exact pNot rfl rfl) rfl (by decide) ?_
  refine oNil ?_
  refine aCondT rfl ?_
  refine aSeq ?_
  refine aReg ?_
  refine oP rfl (by exact pMv (.inr rfl) rfl) rfl (by decide) ?_
  refine oNil ?_
  refine aRet ?_
  refine ⟨_, [], _, rfl, .nil, rfl, rfl⟩

/- trie.Trie).All -/
set_option maxRecDepth 100000 in
set_option maxHeartbeats 400000 in
theorem nob_All (z : AV) (hz : Nob z) : Triple Try.prog 26 [z] [] (fun r h' => r = .v (.slice none 0 0) ∧ h' = []) := by
  refine triple_of Try.func26 rfl (by kernel_rfl) rfl (by simp) ?_
  refine aSeq ?_
  refine aReg ?_
  refine oP rfl (by exact pMv (.inr rfl) rfl) rfl (by decide) ?_
  refine oNil ?_
  refine aSeq ?_
  refine aSeq ?_
  refine aReg ?_
  refine oP rfl (by exact pMv (.inl rfl) rfl) rfl (by decide) ?_
  refine oQ rfl ?_
  refine qCallV rfl rfl (by decide) rfl rfl (lents_refl _) hz ?_
  refine oP rfl (by exact pNot rfl rfl) rfl (by decide) ?_
  refine oNil ?_
  refine aCondT rfl ?_
  refine aSeq ?_
  refine aReg ?_
  refine oP rfl (by exact pMv (.inr rfl) rfl) rfl (by decide) ?_
  refine oNil ?_
  refine aRet ?_
  refine ⟨_, [], _, rfl, .nil, rfl, rfl⟩

def lowL (F k : Nat) : List Ent := (List.range k).map fun i => ⟨F * 65536 + i, 32, 1⟩
theorem lowL_succ (F k : Nat) : lowL F (k + 1) = lowL F k ++ [⟨F * 65536 + k, 32, 1⟩] := by simp [lowL, List.range_succ]
theorem lowL_mem {F k : Nat} {e : Ent} (h : e ∈ lowL F k) : ∃ i, i < k ∧ e = ⟨F * 65536 + i, 32, 1⟩ := by
  simp only [lowL, List.mem_map, List.mem_range] at h
  obtain ⟨i, hi, rfl⟩ := h
  exact ⟨i, hi, rfl⟩
theorem low_none {T : PT} {F k b n : Nat} (hT : allT T 0 32 = lowL F k) (hb : b < 2 ^ 32) (h : ∀ i, i < k → ¬ (F * 65536 + i = b ∧ 32 = n)) : getA T b n = 0 := by
  rw [← get_eq hb, hT, getI_nat]
  have := refGet_front (b := b) (n := n) (xs := lowL F k) (ys := []) (fun x hx => by
    obtain ⟨i, hi, rfl⟩ := lowL_mem hx
    exact h i hi)
  rw [List.append_nil] at this
  rw [this]; rfl
theorem ok32 (b : Nat) : okP b 32 = true := by rw [okP_iff]; exact ⟨by decide, by decide, Nat.mod_one _⟩
theorem low_put {T T' : PT} {F k : Nat} {c : Int} (hT : allT T 0 32 = lowL F k) (hF : F < 65536) (hk : k < 1000) (hc : c = k) (hs : T' = shapeP T c (F * 65536 + k) 32 1) :
    codeP T c (F * 65536 + k) 32 1 = 0 ∧ cntP T c (F * 65536 + k) 32 1 = c + 1 ∧ allT T' 0 32 = lowL F (k + 1) := by
  have hg : getA T (F * 65536 + k) 32 = 0 := low_none (n := 32) hT (by omega) (fun i hi h => by omega)
  have hcode : codeP T c (F * 65536 + k) 32 1 = 0 := by rw [codeP, if_pos ⟨ok32 _, by decide⟩, if_neg (by omega)]
  refine ⟨hcode, by rw [cntP, if_pos ⟨hcode, hg⟩], ?_⟩
  rw [hs, shapeP, if_pos hcode, put_all (by omega) (ok32 _) (by decide), hT, show (32 : Int) = ((32 : Nat) : Int) from rfl, putI_nat]
  have := putAux_front (e := ⟨F * 65536 + k, 32, 1⟩) (xs := lowL F k) (ys := []) (d := false) (fun x hx => by
    obtain ⟨i, hi, rfl⟩ := lowL_mem hx
    exact ahead_of (.inl (by show F * 65536 + i < F * 65536 + k; omega)))
  rw [List.append_nil] at this
  rw [lowL_succ]
  exact this
theorem low_full {T : PT} {F : Nat} {c : Int} (hT : allT T 0 32 = lowL F 1000) (hF : F < 65536) (hc : c = 1000) : codeP T c (F * 65536) 31 1 = 4 := by
  have hg : getA T (F * 65536) 31 = 0 := low_none (n := 31) hT (by omega) (fun i hi h => by omega)
  rw [codeP, if_pos ⟨by rw [okP_iff]; exact ⟨by decide, by decide, by show F * 65536 % 2 ^ 1 = 0; omega⟩, by decide⟩, if_pos ⟨hg, hc⟩]
theorem lowL_cons (F k : Nat) : lowL F (k + 1) = ⟨F * 65536 + 0, 32, 1⟩ :: (List.range k).map (fun i => ⟨F * 65536 + (i + 1), 32, 1⟩) := by
  rw [lowL, List.range_succ_eq_map, List.map_cons, List.map_map]
  rfl
theorem low_again {T T' : PT} {F k : Nat} {c : Int} (hT : allT T 0 32 = lowL F (k + 1)) (hF : F < 65536) (hs : T' = shapeP T c (F * 65536) 32 2) :
    codeP T c (F * 65536) 32 2 = 0 ∧ cntP T c (F * 65536) 32 2 = c ∧ (allT T' 0 32).length = k + 1 := by
  have hg : getA T (F * 65536) 32 = 1 := by
    rw [← get_eq (by omega), hT, show (32 : Int) = ((32 : Nat) : Int) from rfl, getI_nat, lowL_cons, refGet, if_pos (by simp)]
  have hcode : codeP T c (F * 65536) 32 2 = 0 := by rw [codeP, if_pos ⟨ok32 _, by decide⟩, if_neg (by rw [hg]; rintro ⟨h, _⟩; exact absurd h (by decide))]
  refine ⟨hcode, by rw [cntP, if_neg (by rw [hg]; rintro ⟨_, h⟩; exact absurd h (by decide))], ?_⟩
  rw [hs, shapeP, if_pos hcode, put_all (by omega) (ok32 _) (by decide), hT, show (32 : Int) = ((32 : Nat) : Int) from rfl, putI_nat, lowL_cons]
  have htrue : putAux true ((List.range k).map (fun i => (⟨F * 65536 + (i + 1), 32, 1⟩ : Ent))) ⟨F * 65536, 32, 2⟩ = (List.range k).map (fun i => ⟨F * 65536 + (i + 1), 32, 1⟩) := putAux_true (fun y hy => by
    simp only [List.mem_map, List.mem_range] at hy
    obtain ⟨i, hi, rfl⟩ := hy
    rw [Bool.eq_false_iff]
    simp [sameP])
  show (putAux false (_ :: _) _).length = _
  rw [putAux]
  have e1 : aheadE ⟨F * 65536 + 0, 32, 1⟩ ⟨F * 65536, 32, 2⟩ = false := by simp [aheadE]
  have e2 : sameP ⟨F * 65536 + 0, 32, 1⟩ ⟨F * 65536, 32, 2⟩ = true := by simp [sameP]
  rw [e1, e2]
  simp only [Bool.not_false, Bool.and_self, if_true, Bool.or_true]
  rw [htrue]
  simp

/- waymarklaw42.TrieNobody -/
set_option maxRecDepth 100000 in
set_option maxHeartbeats 1000000 in
theorem law42_TrieNobody (b : Nat) (n tv : Int) (F : Nat) (hF : F < 65536) : Triple Try.prog 5 [.agg [u32 b, .int n, .int tv], .v (.int .u16 (F : Int))] [] (fun r h' => r = .v (.bool true) ∧ h' = []) := by
  refine triple_of Try.func5 rfl (by kernel_rfl) rfl (by simp) ?_
  refine aSeq ?_
  refine aReg ?_
  refine oQ rfl ?_
  refine qBox rfl rfl (by decide) rfl rfl (fun b2 => ?_)
  refine oP rfl (by exact pMv (.inr rfl) rfl) rfl (by decide) ?_
  refine oNil ?_
  refine aSeq ?_
  refine aReg ?_
  refine oA rfl ?_
  refine aCallTail (hfr := [_]) (hin := []) rfl rfl (by decide) rfl rfl trie_New ?_
  rintro _ _ ⟨tb, rb, rfl, rfl⟩
  refine oP rfl (by exact pMv (.inr rfl) rfl) rfl (by decide) ?_
  refine oNil ?_
  refine aSeq ?_
  refine aSeq ?_
  refine aReg ?_
  refine oP rfl (by exact pMv (.inr rfl) rfl) rfl (by decide) ?_
  refine oNil ?_
  refine aBlock ?_
  refine aLoopI (α := Nat × AT) (fun (i, T) => i ≤ 1000 ∧ T.isNil = false ∧ allT T.shape 0 32 = lowL F i) (fun (i, T) => ([(1, .v (.int .u16 (F : Int))), (2, .v (.pointer (some ⟨b2, 0, none⟩))), (5, trieP tb), (6, .int i)], .box b2 [u32 b, .int n, .int tv] :: trieH tb T i)) (fun (i, T) => 1000 - i) (0, .node rb 0 .nil .nil) ?_ ?_ ?_
  · skip
    exact ⟨by omega, rfl, rfl⟩
  · skip
    exact weak_env ⟨rfl, rfl, rfl, rfl, trivial⟩
  · rintro ⟨i, T⟩ ⟨hi, hT, hA⟩
    skip
    refine aSeq ?_
    refine aSeq ?_
    refine aReg ?_
    refine oP rfl (by exact pMv (.inl rfl) rfl) rfl (by decide) ?_
    refine oP rfl (by exact pBin rfl rfl rfl rfl rfl) rfl (by decide) ?_
    refine oNil ?_
    refine aCondDec rfl (fun c17 => ?_) (fun c17 => ?_)
    · skip
      refine aSkip ?_
      refine aSeq ?_
      refine aBlock ?_
      refine aSeq ?_
      refine aReg ?_
      refine oP rfl (by exact pMv (.inl rfl) rfl) rfl (by decide) ?_
      refine oP rfl (by exact pMv (.inl rfl) rfl) rfl (by decide) ?_
      refine oP rfl (by exact pConv rfl rfl ik_50 ik_27 (wrap_u32 (by omega) (by omega))) rfl (by decide) ?_
      refine oP rfl (by exact pShlU (a := F) (r := 16) (c := F * 65536) rfl rfl rfl rfl (by decide) (by omega)) rfl (by decide) ?_
      refine oP rfl (by exact pMv (.inl rfl) rfl) rfl (by decide) ?_
      refine oP rfl (by exact pConv rfl rfl ik_3 ik_27 (wrap_u32 (by omega) (by omega))) rfl (by decide) ?_
      refine oP rfl (by exact pBin rfl rfl rfl rfl (show Value.int .u32 (IntKind.u32.wrap _) = Value.int .u32 ((F * 65536 + i : Nat) : Int) by rw [wrap_u32 (by omega) (by omega)]; congr 1)) rfl (by decide) ?_
      refine oP rfl (by exact pBuild rfl st_29 ze_29 rfl rfl rfl rfl) rfl (by decide) ?_
      refine oP rfl (by exact pBuild rfl st_31 ze_31 rfl rfl rfl rfl) rfl (by decide) ?_
      refine oA rfl ?_
      refine aCallTail (hfr := [_]) (hin := trieH tb _ _) rfl rfl (by decide) rfl rfl (trie_Put tb T i (F * 65536 + i) 32 1 (by omega) hT (by omega)) ?_
      rintro _ _ ⟨rfl, T', hT', rfl, hs'⟩
      obtain ⟨h1, h2, h3⟩ := low_put hA hF (by omega) rfl hs'
      rw [h1, h2]
      refine oP rfl (by exact pBin rfl rfl rfl rfl (rfl : _ = Value.bool false)) rfl (by decide) ?_
      refine oNil ?_
      refine aCondF rfl ?_
      refine aSkip ?_
      refine aReg ?_
      refine oP rfl (by exact pMv (.inl rfl) rfl) rfl (by decide) ?_
      refine oP rfl (by exact pAdd rfl rfl rfl (by omega) (by omega)) rfl (by decide) ?_
      refine oP rfl (by exact pMv (.inr rfl) rfl) rfl (by decide) ?_
      refine oNil ?_
      exact ⟨(i + 1, T'), ⟨by omega, hT', h3⟩, by show 1000 - (i + 1) < 1000 - i; omega, weak_env ⟨rfl, rfl, rfl, gInt rfl (by simp), trivial⟩⟩
    · skip
      refine aExit rfl ?_
      refine aSeq ?_
      obtain rfl : i = 1000 := by omega
      refine aReg ?_
      refine oP rfl (by exact pMv (.inl rfl) rfl) rfl (by decide) ?_
      refine oP rfl (by exact pMv (.inl rfl) rfl) rfl (by decide) ?_
      refine oP rfl (by exact pConv rfl rfl ik_50 ik_27 (wrap_u32 (by omega) (by omega))) rfl (by decide) ?_
      refine oP rfl (by exact pShlU (a := F) (r := 16) (c := F * 65536) rfl rfl rfl rfl (by decide) (by omega)) rfl (by decide) ?_
      refine oP rfl (by exact pBuild rfl st_29 ze_29 rfl rfl rfl rfl) rfl (by decide) ?_
      refine oP rfl (by exact pBuild rfl st_31 ze_31 rfl rfl rfl rfl) rfl (by decide) ?_
      refine oA rfl ?_
      refine aCallTail (hfr := [_]) (hin := trieH tb _ _) rfl rfl (by decide) rfl rfl (trie_Put tb T 1000 (F * 65536) 31 1 (by omega) hT (by decide)) ?_
      rintro _ _ ⟨rfl, T1, hT1, rfl, hs'⟩
      have h1 := low_full hA hF rfl
      rw [h1, cntP, if_neg (by rw [h1]; rintro ⟨h, _⟩; exact absurd h (by decide))]
      have hs' : T1.shape = T.shape := by rw [hs', shapeP, if_neg (by rw [h1]; decide)]
      rw [← hs'] at hA
      refine oP rfl (by exact pMv (.inr rfl) rfl) rfl (by decide) ?_
      refine oNil ?_
      refine aSeq ?_
      refine aReg ?_
      refine oP rfl (by exact pMv (.inl rfl) rfl) rfl (by decide) ?_
      refine oP rfl (by exact pMv (.inl rfl) rfl) rfl (by decide) ?_
      refine oP rfl (by exact pConv rfl rfl ik_50 ik_27 (wrap_u32 (by omega) (by omega))) rfl (by decide) ?_
      refine oP rfl (by exact pShlU (a := F) (r := 16) (c := F * 65536) rfl rfl rfl rfl (by decide) (by omega)) rfl (by decide) ?_
      refine oP rfl (by exact pBuild rfl st_29 ze_29 rfl rfl rfl rfl) rfl (by decide) ?_
      refine oP rfl (by exact pBuild rfl st_31 ze_31 rfl rfl rfl rfl) rfl (by decide) ?_
      refine oA rfl ?_
      refine aCallTail (hfr := [_]) (hin := trieH tb _ _) rfl rfl (by decide) rfl rfl (trie_Put tb T1 1000 (F * 65536) 32 2 (by omega) hT1 (by decide)) ?_
      rintro _ _ ⟨rfl, T2, hT2, rfl, hs2⟩
      obtain ⟨h1, h1', h2⟩ := low_again (k := 999) hA hF hs2
      rw [h1, h1']
      refine oP rfl (by exact pMv (.inr rfl) rfl) rfl (by decide) ?_
      refine oNil ?_
      refine aSeq ?_
      refine aSeq ?_
      refine aReg ?_
      refine oP rfl (by exact pMv (.inr rfl) rfl) rfl (by decide) ?_
      refine oNil ?_
      refine aBlock ?_
      refine aLoopI (α := Nat) (fun k => k ≤ 2) (fun k => ([(2, .v (.pointer (some ⟨b2, 0, none⟩))), (5, trieP tb), (7, .int 4), (8, .int 0), (9, .int k)], .box b2 [u32 b, .int n, .int tv] :: trieH tb T2 1000)) (fun k => 2 - k) 0 ?_ ?_ ?_
      · skip
        omega
      · skip
        exact weak_env ⟨rfl, rfl, rfl, rfl, rfl, trivial⟩
      · rintro k hk
        skip
        refine aSeq ?_
        refine aSeq ?_
        refine aReg ?_
        refine oP rfl (by exact pMv (.inl rfl) rfl) rfl (by decide) ?_
        refine oP rfl (by exact pBin rfl rfl rfl rfl rfl) rfl (by decide) ?_
        refine oNil ?_
        refine aCondDec rfl (fun c46 => ?_) (fun c46 => ?_)
        · skip
          refine aSkip ?_
          refine aSeq ?_
          refine aBlock ?_
          refine aSeq ?_
          refine aReg ?_
          refine oP rfl (by exact pMv (.inr rfl) rfl) rfl (by decide) ?_
          refine oNil ?_
          refine aCutI (α := AV) (fun z => Nob z) (fun z => ([(2, .v (.pointer (some ⟨b2, 0, none⟩))), (5, trieP tb), (7, .int 4), (8, .int 0), (9, .int k), (10, z)], .box b2 [u32 b, .int n, .int tv] :: trieH tb T2 1000)) ?_ ?_
          · skip
            refine aSeq ?_
            refine aReg ?_
            refine oP rfl (by exact pMv (.inl rfl) rfl) rfl (by decide) ?_
            refine oP rfl (by exact pBin rfl rfl rfl rfl rfl) rfl (by decide) ?_
            refine oNil ?_
            refine aCondEq rfl (fun c50 => ?_) (fun c50 => ?_)
            · skip
              refine aReg ?_
              refine oP rfl (by exact pBuild rfl st_54 ze_54 rfl rfl rfl rfl) rfl (by decide) ?_
              refine oQ rfl ?_
              refine qBox rfl rfl (by decide) rfl rfl (fun b52 => ?_)
              refine oP rfl (by exact pMv (.inr rfl) rfl) rfl (by decide) ?_
              refine oNil ?_
              first
                | exact ⟨_, nob_nil, weak_env ⟨rfl, rfl, rfl, rfl, rfl, rfl, trivial⟩⟩
                | exact ⟨_, nob_sp, Weak.trans (weak_deep (k := 10) (b := .sp [.v (AT.nil).ptr, .int 0]) rfl (.cons .hd .nil) (by repeat constructor)) (weak_env ⟨rfl, rfl, rfl, rfl, rfl, rfl, trivial⟩)⟩
            · skip
              refine aSkip ?_
              first
                | exact ⟨_, nob_nil, weak_env ⟨rfl, rfl, rfl, rfl, rfl, rfl, trivial⟩⟩
                | exact ⟨_, nob_sp, Weak.trans (weak_deep (k := 10) (b := .sp [.v (AT.nil).ptr, .int 0]) rfl (.cons .hd .nil) (by repeat constructor)) (weak_env ⟨rfl, rfl, rfl, rfl, rfl, rfl, trivial⟩)⟩
          · rintro z hz
            skip
            refine aSeq ?_
            refine aReg ?_
            refine oP rfl (by exact pMv (.inl rfl) rfl) rfl (by decide) ?_
            refine oP rfl (by first | exact pFldB rfl rfl fd_31_0 | exact pFldS rfl rfl fd_31_0) rfl (by decide) ?_
            refine oP rfl (by first | exact pFldB rfl rfl fd_29_0 | exact pFldS rfl rfl fd_29_0) rfl (by decide) ?_
            refine oR rfl (by first | exact rLdS1 rfl rfl ty_27 rfl | exact rLdB1 rfl rfl (by repeat constructor) ty_27 rfl) rfl (by decide) ?_
            refine oQ rfl ?_
            refine qCall0 rfl rfl (by decide) rfl rfl (nob_Find z b hz) ?_
            rintro _ _ ⟨rfl, rfl⟩
            refine oP rfl (by exact pMv (.inl rfl) rfl) rfl (by decide) ?_
            refine oP rfl (by exact pExt rfl rfl rfl) rfl (by decide) ?_
            refine oP rfl (by exact pExt rfl rfl rfl) rfl (by decide) ?_
            refine oQ rfl ?_
            refine qAlloc rfl rfl (by decide) ze_31 rfl (fun b11 => ?_)
            refine oA rfl ?_
            refine oStB rfl rfl rfl rfl (by repeat constructor) ty_31 rfl (Nat.le_of_ble_eq_true rfl) rfl ?_
            refine oP rfl (by exact pMv (.inr rfl) rfl) rfl (by decide) ?_
            refine oNil ?_
            refine aSeq ?_
            refine aReg ?_
            refine oP rfl (by exact pMv (.inl rfl) rfl) rfl (by decide) ?_
            refine oP rfl (by first | exact pFldB rfl rfl fd_31_0 | exact pFldS rfl rfl fd_31_0) rfl (by decide) ?_
            refine oR rfl (by first | exact rLdSA rfl rfl ty_29 (Nat.le_of_ble_eq_true rfl) | exact rLdBA rfl rfl (by repeat constructor) ty_29 (Nat.le_of_ble_eq_true rfl)) rfl (by decide) ?_
            refine oQ rfl ?_
            refine qCall0 rfl rfl (by decide) rfl rfl (nob_Get z b n hz) ?_
            rintro _ _ ⟨rfl, rfl⟩
            refine oP rfl (by exact pMv (.inl rfl) rfl) rfl (by decide) ?_
            refine oP rfl (by exact pExt rfl rfl rfl) rfl (by decide) ?_
            refine oP rfl (by exact pExt rfl rfl rfl) rfl (by decide) ?_
            refine oP rfl (by exact pMv (.inr rfl) rfl) rfl (by decide) ?_
            refine oP rfl (by exact pMv (.inr rfl) rfl) rfl (by decide) ?_
            refine oNil ?_
            refine aSeq ?_
            refine aReg ?_
            refine oP rfl (by exact pMv (.inl rfl) rfl) rfl (by decide) ?_
            refine oP rfl (by exact pMv (.inl rfl) rfl) rfl (by decide) ?_
            refine oGP rfl rfl rfl rfl (by exact pMv (.inl rfl) rfl) rfl (by decide) ?_
            refine oP rfl (by exact pPick rfl rfl rfl) rfl (by decide) ?_
            refine oP rfl (by exact pMv (.inl rfl) rfl) rfl (by decide) ?_
            refine oGP rfl rfl rfl rfl (by exact pMv (.inl rfl) rfl) rfl (by decide) ?_
            refine oGR rfl rfl rfl rfl (by first | exact rLdSA rfl rfl ty_31 (Nat.le_of_ble_eq_true rfl) | exact rLdBA rfl rfl (by repeat constructor) ty_31 (Nat.le_of_ble_eq_true rfl)) rfl (by decide) ?_
            refine oGT rfl rfl rfl rfl ?_
            refine (qCallV rfl rfl (by decide) rfl rfl (lents_refl _) (nob_Put z b n tv hz) ?_).op
            refine oGP rfl rfl rfl rfl (by exact pBin rfl rfl rfl rfl (rfl : _ = Value.bool false)) rfl (by decide) ?_
            refine oP rfl (by exact pPick rfl rfl rfl) rfl (by decide) ?_
            refine oP rfl (by exact pMv (.inl rfl) rfl) rfl (by decide) ?_
            refine oGP rfl rfl rfl rfl (by exact pMv (.inl rfl) rfl) rfl (by decide) ?_
            refine oGP rfl rfl rfl rfl (by first | exact pFldB rfl rfl fd_31_0 | exact pFldS rfl rfl fd_31_0) rfl (by decide) ?_
            refine oGR rfl rfl rfl rfl (by first | exact rLdSA rfl rfl ty_29 (Nat.le_of_ble_eq_true rfl) | exact rLdBA rfl rfl (by repeat constructor) ty_29 (Nat.le_of_ble_eq_true rfl)) rfl (by decide) ?_
            refine oGT rfl rfl rfl rfl ?_
            refine (qCallV rfl rfl (by decide) rfl rfl (lents_refl _) (nob_Drop z b n hz) ?_).op
            refine oGP rfl rfl rfl rfl (by exact pBin rfl rfl rfl rfl (rfl : _ = Value.bool false)) rfl (by decide) ?_
            refine oP rfl (by exact pPick rfl rfl rfl) rfl (by decide) ?_
            refine oP rfl (by exact pMv (.inl rfl) rfl) rfl (by decide) ?_
            refine oGP rfl rfl rfl rfl (by exact pMv (.inl rfl) rfl) rfl (by decide) ?_
            refine oGT rfl rfl rfl rfl ?_
            refine (qCallV rfl rfl (by decide) rfl rfl (lents_refl _) (nob_All z hz) ?_).op
            refine oGP rfl rfl rfl rfl (by exact pLenV rfl rfl sl_26) rfl (by decide) ?_
            refine oGP rfl rfl rfl rfl (by exact pBin rfl rfl rfl rfl (rfl : _ = Value.bool false)) rfl (by decide) ?_
            refine oP rfl (by exact pPick rfl rfl rfl) rfl (by decide) ?_
            refine oNil ?_
            refine aCondF rfl ?_
            refine aSkip ?_
            refine aReg ?_
            refine oP rfl (by exact pMv (.inl rfl) rfl) rfl (by decide) ?_
            refine oP rfl (by exact pAdd rfl rfl rfl (by omega) (by omega)) rfl (by decide) ?_
            refine oP rfl (by exact pMv (.inr rfl) rfl) rfl (by decide) ?_
            refine oNil ?_
            exact ⟨k + 1, by omega, by show 2 - (k + 1) < 2 - k; omega, weak_sub ⟨rfl, rfl, rfl, rfl, gInt rfl (by simp), trivial⟩ (tk_after (l := [_]))⟩
        · skip
          refine aExit rfl ?_
          refine aSeq ?_
          refine aReg ?_
          refine oP rfl (by exact pMv (.inl rfl) rfl) rfl (by decide) ?_
          refine oP rfl (by exact pBin rfl rfl rfl rfl (rfl : _ = Value.bool true)) rfl (by decide) ?_
          refine oP rfl (by exact pMv (.inl rfl) rfl) rfl (by decide) ?_
          refine oGP rfl rfl rfl rfl (by exact pMv (.inl rfl) rfl) rfl (by decide) ?_
          refine oGP rfl rfl rfl rfl (by exact pBin rfl rfl rfl rfl (rfl : _ = Value.bool true)) rfl (by decide) ?_
          refine oP rfl (by exact pPick rfl rfl rfl) rfl (by decide) ?_
          refine oP rfl (by exact pMv (.inl rfl) rfl) rfl (by decide) ?_
          refine oGP rfl rfl rfl rfl (by exact pMv (.inl rfl) rfl) rfl (by decide) ?_
          refine oGT rfl rfl rfl rfl ?_
          refine aCallTail (hfr := [_]) (hin := trieH tb _ _) rfl rfl (by decide) rfl rfl (trie_All tb T2 1000 hT2 (by omega)) ?_
          rintro _ _ ⟨g99, k99, rfl, rfl⟩
          rw [h2]
          refine oGP rfl rfl rfl rfl (by exact pLenV rfl rfl sl_26) rfl (by decide) ?_
          refine oGP rfl rfl rfl rfl (by exact pBin rfl rfl rfl rfl (rfl : _ = Value.bool true)) rfl (by decide) ?_
          refine oP rfl (by exact pPick rfl rfl rfl) rfl (by decide) ?_
          refine oP rfl (by exact pMv (.inl rfl) rfl) rfl (by decide) ?_
          refine oGT rfl rfl rfl rfl ?_
          refine (qCallV rfl rfl (by decide) rfl rfl (lents_refl _) law42_awake ?_).op
          refine oP rfl (by exact pPick rfl rfl rfl) rfl (by decide) ?_
          refine oP rfl (by exact pMv (.inr rfl) rfl) rfl (by decide) ?_
          refine oNil ?_
          refine aRet ?_
          refine ⟨_, [], _, rfl, .nil, rfl, rfl⟩

end A
end Go.Proofs.Ytkgemkadebgeoaa
