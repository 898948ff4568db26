/- What functions of the program compute: law03d -/
import Derived.Test.YtkgemkadebgeoaaBlaw03c
import Derived.Test.YtkgemkadebgeoaaProg
import Derived.KernelRfl
set_option linter.unusedVariables false
set_option linter.unusedSimpArgs false
namespace Go.Proofs.Ytkgemkadebgeoaa
namespace A

def wA : DW := ⟨[zeros, zeros], [[], fill [7]], -1, false⟩
theorem awk1 : (DW.new 2).write 1 (fill [7]) = (wA, 0) := by
  rw [write_yes rfl (by decide) (by decide) (fill_len _) (by decide)]
  rfl
theorem awk2 : wA.waiting = [1] := by
  have h : (fill [7]).length = 512 := fill_len _
  have h0 : wA.waits.getD 0 [] = [] := rfl
  have h1 : wA.waits.getD 1 [] = fill [7] := rfl
  show (List.range 2).filter _ = _
  rw [show List.range 2 = [0, 1] from rfl, List.filter_cons_of_neg (by rw [h0]; decide), List.filter_cons_of_pos (by rw [h1, h]; decide)]
  rfl
def wB : DW := ⟨[zeros, zeros], [[], []], -1, false⟩
theorem awk3 : wA.crash [] = wB := by
  unfold DW.crash
  rw [List.zip_nil_right]
  rfl
theorem awk4 : wB.read 1 = (zeros, 0) := by rw [read_ok rfl (by decide) (by decide)]; rfl
theorem zeros_get : (zeros.map by1)[0]? = some (by1 0) := by rw [zeros_map, List.getElem?_replicate, if_pos (by decide)]

/- waymarklaw03.awake -/
set_option maxRecDepth 100000 in
set_option maxHeartbeats 1000000 in
theorem law03_awake  : Triple Try.prog 42 [] [] (fun q h' => q = .v (.bool true) ∧ h' = []) := by
  refine triple_of Try.func42 rfl (by kernel_rfl) rfl (by simp) ?_
  refine aSeq ?_
  refine aReg ?_
  refine oP rfl (by exact pMv (.inr rfl) rfl) rfl (by decide) ?_
  refine oNil ?_
  refine aSeq ?_
  refine aReg ?_
  refine oA rfl ?_
  refine aCall rfl rfl (by decide) rfl rfl .nil (disk_New 2 (by decide) (by decide)) ?_
  rintro _ _ ⟨db, bs, bw, rfl, rfl⟩
  refine oP rfl (by exact pMv (.inl rfl) rfl) rfl (by decide) ?_
  refine oP rfl (by exact pExt rfl rfl rfl) rfl (by decide) ?_
  refine oP rfl (by exact pExt rfl rfl rfl) rfl (by decide) ?_
  refine oP rfl (by exact pMv (.inr rfl) rfl) rfl (by decide) ?_
  refine oP rfl (by exact pMv (.inr rfl) rfl) rfl (by decide) ?_
  refine oNil ?_
  refine aSeq ?_
  refine aSeq ?_
  refine aReg ?_
  refine oP rfl (by exact pMv (.inl rfl) rfl) rfl (by decide) ?_
  refine oP rfl (by exact pBin rfl rfl rfl rfl (rfl : _ = Value.bool false)) rfl (by decide) ?_
  refine oP rfl (by exact pMv (.inl rfl) rfl) rfl (by decide) ?_
  refine oGP rfl rfl rfl rfl (by exact pMv (.inl rfl) rfl) rfl (by decide) ?_
  refine oGP rfl rfl rfl rfl (by first | exact pPtrNil rfl (.inl rfl) rfl pt_78 rfl (rfl : _ = false) | exact pSpNil rfl (.inl rfl) rfl pt_78 (rfl : _ = false)) rfl (by decide) ?_
  refine oP rfl (by exact pPick rfl rfl rfl) rfl (by decide) ?_
  refine oNil ?_
  refine aCondF rfl ?_
  refine aSkip ?_
  refine aSeq ?_
  refine aReg ?_
  refine oP rfl (by exact pMv (.inl rfl) rfl) rfl (by decide) ?_
  refine oQ rfl ?_
  refine qLit (l := [_]) rfl rfl (by decide) us_48 ty_5 ze_5 rfl (by decide) (by decide) rfl rfl rfl (fun b18 => ?_)
  refine oWeak (weak_settle (k := 18) rfl .hd rfl) ?_
  refine oA rfl ?_
  refine aCall rfl rfl (by decide) rfl rfl .nil (law03_Fill [7] (by decide)) ?_
  rintro _ _ ⟨g19, c19, rfl, rfl⟩
  refine oWeak (weak_settle (k := 19) rfl .hd (by rw [List.length_map, fill_len])) ?_
  refine oA rfl ?_
  refine aCall rfl rfl (by decide) rfl rfl (.cons (by repeat constructor) (.cons (by repeat constructor) (.cons (by repeat constructor) .nil))) (disk_Write db bs bw 2 1 (fill [7]) [] [] (DW.new 2) (rel_new (by decide) (by decide))) ?_
  intro q h' hq
  try dsimp only at hq
  rw [awk1] at hq
  obtain ⟨rfl, W1, r1, rfl⟩ := hq
  refine oP rfl (by exact pMv (.inr rfl) rfl) rfl (by decide) ?_
  refine oNil ?_
  refine aSeq ?_
  refine aReg ?_
  refine oP rfl (by exact pMv (.inl rfl) rfl) rfl (by decide) ?_
  refine oA rfl ?_
  refine aCall rfl rfl (by decide) rfl rfl (.cons (by repeat constructor) (.cons (by repeat constructor) (.cons (by repeat constructor) .nil))) (disk_Waits db bs bw 2 [] W1 wA r1) ?_
  intro q h' hq
  try dsimp only at hq
  rw [awk2] at hq
  obtain ⟨g22, c22, rfl, rfl⟩ := hq
  refine oWeak (weak_settle (k := 22) rfl .hd rfl) ?_
  refine oP rfl (by exact pMv (.inr rfl) rfl) rfl (by decide) ?_
  refine oNil ?_
  refine aSeq ?_
  refine aReg ?_
  refine oP rfl (by exact pMv (.inl rfl) rfl) rfl (by decide) ?_
  refine oA rfl ?_
  refine aCall rfl rfl (by decide) rfl rfl (.cons (by repeat constructor) (.cons (by repeat constructor) (.cons (by repeat constructor) .nil))) ((disk_Crash db bs bw 2 [] W1 wA r1 []).casts (.cons .refl (.cons cast_nil .nil))) ?_
  intro q h' hq
  try dsimp only at hq
  rw [awk3] at hq
  obtain ⟨rfl, S2, r2, rfl⟩ := hq
  refine oNil ?_
  refine aSeq ?_
  refine aReg ?_
  refine oP rfl (by exact pMv (.inl rfl) rfl) rfl (by decide) ?_
  refine oA rfl ?_
  refine aCall rfl rfl (by decide) rfl rfl (.cons (by repeat constructor) (.cons (by repeat constructor) (.cons (by repeat constructor) .nil))) (disk_Read db bs bw 2 1 S2 [] wB r2) ?_
  intro q h' hq
  try dsimp only at hq
  rw [awk4] at hq
  obtain ⟨g27, c27, rfl, rfl⟩ := hq
  refine oWeak (weak_deep (k := 27) (b := .tup [.sl 1 (zeros.map by1), .int 0]) rfl (.cons .hd .nil) (.tup (.sl (List.mem_singleton.2 rfl) (List.length_map _).symm Deep.refl (.same (.row .nil))) (.row .nil))) ?_
  refine oP rfl (by exact pMv (.inl rfl) rfl) rfl (by decide) ?_
  refine oP rfl (by exact pExt rfl rfl rfl) rfl (by decide) ?_
  refine oP rfl (by exact pExt rfl rfl rfl) rfl (by decide) ?_
  refine oP rfl (by exact pMv (.inr rfl) rfl) rfl (by decide) ?_
  refine oP rfl (by exact pMv (.inr rfl) rfl) rfl (by decide) ?_
  refine oNil ?_
  refine aSeq ?_
  refine aReg ?_
  refine oP rfl (by exact pMv (.inl rfl) rfl) rfl (by decide) ?_
  refine oP rfl (by exact pBin rfl rfl rfl rfl (rfl : _ = Value.bool true)) rfl (by decide) ?_
  refine oP rfl (by exact pMv (.inl rfl) rfl) rfl (by decide) ?_
  refine oGP rfl rfl rfl rfl (by exact pMv (.inl rfl) rfl) rfl (by decide) ?_
  refine oGP rfl rfl rfl rfl (by exact pLenS' (n := 1) (pLenS rfl rfl sl_103) rfl) rfl (by decide) ?_
  refine oGP rfl rfl rfl rfl (by exact pBin rfl rfl rfl rfl (rfl : _ = Value.bool true)) rfl (by decide) ?_
  refine oP rfl (by exact pPick rfl rfl rfl) rfl (by decide) ?_
  refine oP rfl (by exact pMv (.inl rfl) rfl) rfl (by decide) ?_
  refine oGP rfl rfl rfl rfl (by exact pMv (.inl rfl) rfl) rfl (by decide) ?_
  refine oGP rfl rfl rfl rfl (by exact pIdxS rfl rfl rfl es_103 (by decide) rfl) rfl (by decide) ?_
  refine oGR rfl rfl rfl rfl (by first | exact rLdS1 rfl rfl ty_3 rfl | exact rLdB1 rfl rfl (by repeat constructor) ty_3 rfl) rfl (by decide) ?_
  refine oGP rfl rfl rfl rfl (by exact pBin rfl rfl rfl rfl (rfl : _ = Value.bool true)) rfl (by decide) ?_
  refine oP rfl (by exact pPick rfl rfl rfl) rfl (by decide) ?_
  refine oP rfl (by exact pMv (.inl rfl) rfl) rfl (by decide) ?_
  refine oGP rfl rfl rfl rfl (by exact pMv (.inl rfl) rfl) rfl (by decide) ?_
  refine oGP rfl rfl rfl rfl (by exact pBin rfl rfl rfl rfl (rfl : _ = Value.bool true)) rfl (by decide) ?_
  refine oP rfl (by exact pPick rfl rfl rfl) rfl (by decide) ?_
  refine oP rfl (by exact pMv (.inl rfl) rfl) rfl (by decide) ?_
  refine oGP rfl rfl rfl rfl (by exact pMv (.inl rfl) rfl) rfl (by decide) ?_
  refine oGP rfl rfl rfl rfl (by exact pLenS' (n := 512) (pLenS rfl rfl sl_48) (by rw [List.length_map]; exact zeros_len)) rfl (by decide) ?_
  refine oGP rfl rfl rfl rfl (by exact pBin rfl rfl rfl rfl (rfl : _ = Value.bool true)) rfl (by decide) ?_
  refine oP rfl (by exact pPick rfl rfl rfl) rfl (by decide) ?_
  refine oP rfl (by exact pMv (.inl rfl) rfl) rfl (by decide) ?_
  refine oGP rfl rfl rfl rfl (by exact pMv (.inl rfl) rfl) rfl (by decide) ?_
  refine oGP rfl rfl rfl rfl (by exact pIdxS rfl rfl rfl es_48 (by decide) zeros_get) rfl (by decide) ?_
  refine oGR rfl rfl rfl rfl (by first | exact rLdS1 rfl rfl ty_5 rfl | exact rLdB1 rfl rfl (by repeat constructor) ty_5 rfl) rfl (by decide) ?_
  refine oGP rfl rfl rfl rfl (by exact pBin rfl rfl rfl rfl (rfl : _ = Value.bool true)) rfl (by decide) ?_
  refine oP rfl (by exact pPick rfl rfl rfl) rfl (by decide) ?_
  refine oP rfl (by exact pMv (.inl rfl) rfl) rfl (by decide) ?_
  refine oGP rfl rfl rfl rfl (by exact pMv (.inl rfl) rfl) rfl (by decide) ?_
  refine oGT rfl rfl rfl rfl ?_
  refine aCall rfl rfl (by decide) rfl rfl (.cons (by repeat constructor) .nil) (disk_Size _ _ _ _ _ _) ?_
  rintro _ _ ⟨rfl, rfl⟩
  refine oGP rfl rfl rfl rfl (by exact pBin rfl rfl rfl rfl (rfl : _ = Value.bool true)) rfl (by decide) ?_
  refine oP rfl (by exact pPick rfl rfl rfl) rfl (by decide) ?_
  refine oP rfl (by exact pMv (.inr rfl) rfl) rfl (by decide) ?_
  refine oNil ?_
  refine aRet ?_
  exact ⟨_, [], _, rfl, .nil, rfl, rfl⟩

end A
end Go.Proofs.Ytkgemkadebgeoaa
