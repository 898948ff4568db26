/- What functions of the program compute: law03d -/
import Derived.Test.YtkgemkadebgeoaaBlaw03c
import Derived.Test.YtkgemkadebgeoaaProg
import Derived.KernelRfl
set_option linter.unusedVariables false
set_option linter.unusedSimpArgs false
namespace Go.Proofs.Ytkgemkadebgeoaa
namespace A

def wA : DW := ⟨[zeros, zeros], [[], fill [7]], -1, false⟩
theorem awk1 : (DW.new 2).write 1 (fill [7]) = (wA, 0) := by
  rw [write_yes rfl (by decide) (by decide) (fill_len _) (by decide)]
  rfl
theorem awk2 : wA.waiting = [1] := by
  have h : (fill [7]).length = 512 := fill_len _
  have h0 : wA.waits.getD 0 [] = [] := rfl
  have h1 : wA.waits.getD 1 [] = fill [7] := rfl
  show (List.range 2).filter _ = _
  rw [show List.range 2 = [0, 1] from rfl, List.filter_cons_of_neg (by rw [h0]; decide), List.filter_cons_of_pos (by rw [h1, h]; decide)]
  rfl
def wB : DW := ⟨[zeros, zeros], [[], []], -1, false⟩
theorem awk3 : wA.crash [] = wB := by
  unfold DW.crash
  rw [List.zip_nil_right]
  rfl
theorem awk4 : wB.read 1 = (zeros, 0) := by rw [read_ok rfl (by decide) (by decide)]; rfl
theorem zeros_get : (zeros.map by1)[0]? = some (by1 0) := by rw [zeros_map, List.getElem?_replicate, if_pos (by decide)]

/- waymarklaw03.awake -/
set_option maxRecDepth 100000 in
set_option maxHeartbeats 1000000 in
theorem law03_awake  : Triple Try.prog 42 [] [] (fun q h' => q = .v (.bool true) ∧ h' = []) := by
  refine triple_of Try.func42 rfl (by kernel_rfl) rfl (by simp) ?_
  refine aSeq ?_
  refine aReg ?_
  refine sp pMa ?_
  refine oNil ?_
  refine aSeq ?_
  refine aReg ?_
  refine sa ?_
  refine aCall rfl rfl (by decide) rfl rfl .nil (disk_New 2 (by decide) (by decide)) ?_
  rintro _ _ ⟨db, bs, bw, rfl, rfl⟩
  refine sp pM ?_
  refine sp pX ?_
  refine sp pX ?_
  refine sp pMa ?_
  refine sp pMa ?_
  refine oNil ?_
  refine aSeq ?_
  refine aSeq ?_
  refine aReg ?_
  refine sp pM ?_
  refine sp (pBin rfl rfl rfl rfl (rfl : _ = Value.bool false)) ?_
  refine sp pM ?_
  refine gp pM ?_
  refine gp (by first | exact pPtrNil rfl (.inl rfl) rfl pt_78 rfl (rfl : _ = false) | exact pSpNil rfl (.inl rfl) rfl pt_78 (rfl : _ = false)) ?_
  refine sp pK ?_
  refine oNil ?_
  refine aCondF rfl ?_
  refine aSkip ?_
  refine aSeq ?_
  refine aReg ?_
  refine sp pM ?_
  refine sq ?_
  refine qLit (l := [_]) rfl rfl (by decide) us_48 ty_5 ze_5 rfl (by decide) (by decide) rfl rfl rfl (fun b18 => ?_)
  refine oWeak (weak_settle (k := 18) rfl .hd rfl) ?_
  refine sa ?_
  refine aCall rfl rfl (by decide) rfl rfl .nil (law03_Fill [7] (by decide)) ?_
  rintro _ _ ⟨g19, c19, rfl, rfl⟩
  refine oWeak (weak_settle (k := 19) rfl .hd (by rw [List.length_map, fill_len])) ?_
  refine sa ?_
  refine aCall rfl rfl (by decide) rfl rfl (.cons (by repeat constructor) (.cons (by repeat constructor) (.cons (by repeat constructor) .nil))) (disk_Write db bs bw 2 1 (fill [7]) [] [] (DW.new 2) (rel_new (by decide) (by decide))) ?_
  intro q h' hq
  try dsimp only at hq
  rw [awk1] at hq
  obtain ⟨rfl, W1, r1, rfl⟩ := hq
  refine sp pMa ?_
  refine oNil ?_
  refine aSeq ?_
  refine aReg ?_
  refine sp pM ?_
  refine sa ?_
  refine aCall rfl rfl (by decide) rfl rfl (.cons (by repeat constructor) (.cons (by repeat constructor) (.cons (by repeat constructor) .nil))) (disk_Waits db bs bw 2 [] W1 wA r1) ?_
  intro q h' hq
  try dsimp only at hq
  rw [awk2] at hq
  obtain ⟨g22, c22, rfl, rfl⟩ := hq
  refine oWeak (weak_settle (k := 22) rfl .hd rfl) ?_
  refine sp pMa ?_
  refine oNil ?_
  refine aSeq ?_
  refine aReg ?_
  refine sp pM ?_
  refine sa ?_
  refine aCall rfl rfl (by decide) rfl rfl (.cons (by repeat constructor) (.cons (by repeat constructor) (.cons (by repeat constructor) .nil))) ((disk_Crash db bs bw 2 [] W1 wA r1 []).casts (.cons .refl (.cons cast_nil .nil))) ?_
  intro q h' hq
  try dsimp only at hq
  rw [awk3] at hq
  obtain ⟨rfl, S2, r2, rfl⟩ := hq
  refine oNil ?_
  refine aSeq ?_
  refine aReg ?_
  refine sp pM ?_
  refine sa ?_
  refine aCall rfl rfl (by decide) rfl rfl (.cons (by repeat constructor) (.cons (by repeat constructor) (.cons (by repeat constructor) .nil))) (disk_Read db bs bw 2 1 S2 [] wB r2) ?_
  intro q h' hq
  try dsimp only at hq
  rw [awk4] at hq
  obtain ⟨g27, c27, rfl, rfl⟩ := hq
  refine oWeak (weak_deep (k := 27) (b := .tup [.sl 1 (zeros.map by1), .int 0]) rfl (.cons .hd .nil) (.tup (.sl (List.mem_singleton.2 rfl) (List.length_map _).symm Deep.refl (.same (.row .nil))) (.row .nil))) ?_
  refine sp pM ?_
  refine sp pX ?_
  refine sp pX ?_
  refine sp pMa ?_
  refine sp pMa ?_
  refine oNil ?_
  refine aSeq ?_
  refine aReg ?_
  refine sp pM ?_
  refine sp (pBin rfl rfl rfl rfl (rfl : _ = Value.bool true)) ?_
  refine sp pM ?_
  refine gp pM ?_
  refine gp (pLenS' (n := 1) (pLenS rfl rfl sl_103) rfl) ?_
  refine gp (pBin rfl rfl rfl rfl (rfl : _ = Value.bool true)) ?_
  refine sp pK ?_
  refine sp pM ?_
  refine gp pM ?_
  refine gp (pIdxS rfl rfl rfl es_103 (by decide) rfl) ?_
  refine gr (by first | exact rS1 ty_3 | exact rB1 ty_3) ?_
  refine gp (pBin rfl rfl rfl rfl (rfl : _ = Value.bool true)) ?_
  refine sp pK ?_
  refine sp pM ?_
  refine gp pM ?_
  refine gp (pBin rfl rfl rfl rfl (rfl : _ = Value.bool true)) ?_
  refine sp pK ?_
  refine sp pM ?_
  refine gp pM ?_
  refine gp (pLenS' (n := 512) (pLenS rfl rfl sl_48) (by rw [List.length_map]; exact zeros_len)) ?_
  refine gp (pBin rfl rfl rfl rfl (rfl : _ = Value.bool true)) ?_
  refine sp pK ?_
  refine sp pM ?_
  refine gp pM ?_
  refine gp (pIdxS rfl rfl rfl es_48 (by decide) zeros_get) ?_
  refine gr (by first | exact rS1 ty_5 | exact rB1 ty_5) ?_
  refine gp (pBin rfl rfl rfl rfl (rfl : _ = Value.bool true)) ?_
  refine sp pK ?_
  refine sp pM ?_
  refine gp pM ?_
  refine ga ?_
  refine aCall rfl rfl (by decide) rfl rfl (.cons (by repeat constructor) .nil) (disk_Size _ _ _ _ _ _) ?_
  rintro _ _ ⟨rfl, rfl⟩
  refine gp (pBin rfl rfl rfl rfl (rfl : _ = Value.bool true)) ?_
  refine sp pK ?_
  refine sp pMa ?_
  refine oNil ?_
  refine aRet ?_
  exact ⟨_, [], _, rfl, .nil, rfl, rfl⟩

end A
end Go.Proofs.Ytkgemkadebgeoaa
