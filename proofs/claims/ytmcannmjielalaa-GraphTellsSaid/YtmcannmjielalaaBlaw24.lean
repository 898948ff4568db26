/- What functions of the program compute: law24 -/
import Derived.Test.YtmcannmjielalaaBbase19
import Derived.Test.YtmcannmjielalaaProg
import Derived.KernelRfl
set_option linter.unusedVariables false
set_option linter.unusedSimpArgs false
namespace Go.Proofs.Ytmcannmjielalaa
namespace A

theorem bo_4 : isBoolT Try.prog 4 = true := by kernel_rfl
theorem st_138 : structPlaces Try.prog 138 = some [(0, 1), (1, 1)] := by kernel_rfl
theorem us_139 : Try.prog.underlying 139 = some (.slice 138) := by kernel_rfl
theorem us_55 : Try.prog.underlying 55 = some (.slice 141) := by kernel_rfl
def awakeDb : List Lsa := [⟨1, 1, [⟨2, 3⟩, ⟨4, 1⟩]⟩, ⟨2, 1, [⟨1, 5⟩]⟩]
theorem awake_arcs : arcsDb awakeDb = [⟨1, 2, 3⟩, ⟨2, 1, 5⟩] := by decide

/- waymarklaw24.awake -/
set_option maxRecDepth 100000 in
set_option maxHeartbeats 400000 in
theorem law24_awake  : Triple Try.prog 26 [] [] (fun r h' => r = .v (.bool true) ∧ h' = []) := by
  refine triple_of Try.func26 rfl (by kernel_rfl) rfl (by simp) ?_
  refine aSeq ?_
  refine aReg ?_
  refine sp pMa ?_
  refine oNil ?_
  refine aSeq ?_
  refine aReg ?_
  refine sp (pBuild rfl st_138 ze_138 rfl rfl rfl rfl) ?_
  refine sp (pBuild rfl st_138 ze_138 rfl rfl rfl rfl) ?_
  refine sq ?_
  refine qLit (l := [_, _]) rfl rfl (by decide) us_139 ty_138 ze_138 rfl (by decide) (by decide) rfl rfl rfl (fun b5 => ?_)
  refine sp (pBuild rfl st_141 ze_141 rfl rfl rfl rfl) ?_
  refine sp (pBuild rfl st_138 ze_138 rfl rfl rfl rfl) ?_
  refine sq ?_
  refine qLit (l := [_]) rfl rfl (by decide) us_139 ty_138 ze_138 rfl (by decide) (by decide) rfl rfl rfl (fun b8 => ?_)
  refine sp (pBuild rfl st_141 ze_141 rfl rfl rfl rfl) ?_
  refine sq ?_
  refine qLit (l := [_, _]) rfl rfl (by decide) us_55 ty_141 ze_141 rfl (by decide) (by decide) rfl rfl rfl (fun b10 => ?_)
  refine sp pMa ?_
  refine oNil ?_
  refine aSeq ?_
  refine aWeak (weak_deep (k := 1) (b := .sl 3 (awakeDb.map lsaC)) rfl (.cons .hd (.cons .hd (.cons .hd .nil))) (by repeat constructor)) ?_
  refine aReg ?_
  refine sp pM ?_
  refine sa ?_
  refine aCall rfl rfl (by decide) rfl rfl .nil (graph_Arcs awakeDb (by decide)) ?_
  rintro _ _ ⟨g12, k12, rfl, rfl⟩
  rw [awake_arcs]
  refine oWeak (weak_settle (k := 12) rfl .hd rfl) ?_
  refine sp pMa ?_
  refine oNil ?_
  refine aSeq ?_
  refine aReg ?_
  refine sp pM ?_
  refine sp (pLenS' (n := 2) (pLenS rfl rfl sl_22) rfl) ?_
  refine sp (pBin rfl rfl rfl rfl (rfl : _ = Value.bool true)) ?_
  refine sp pM ?_
  refine gp pM ?_
  refine gp (pIdxS rfl rfl rfl es_22 (by decide) rfl) ?_
  refine gr (by first | exact rSW ty_36 rfl | exact rSA ty_36 | exact rBWa ty_36 | exact rBW ty_36 | exact rBA ty_36 | exact rArA ty_36 (fun _ => rfl)) ?_
  refine gp (pBuild rfl st_36 ze_36 rfl rfl rfl rfl) ?_
  refine gp (pEqA rfl (.inl rfl) rfl rfl eq_36 rfl (rfl : _ = true)) ?_
  refine sp pK ?_
  refine sp pM ?_
  refine gp pM ?_
  refine gp (pIdxS rfl rfl rfl es_22 (by decide) rfl) ?_
  refine gr (by first | exact rSW ty_36 rfl | exact rSA ty_36 | exact rBWa ty_36 | exact rBW ty_36 | exact rBA ty_36 | exact rArA ty_36 (fun _ => rfl)) ?_
  refine gp (pBuild rfl st_36 ze_36 rfl rfl rfl rfl) ?_
  refine gp (pEqA rfl (.inl rfl) rfl rfl eq_36 rfl (rfl : _ = true)) ?_
  refine sp pK ?_
  refine sp pMa ?_
  refine oNil ?_
  refine aRet ?_
  refine ⟨_, [], _, rfl, .nil, rfl, rfl⟩

/- waymarklaw24.GraphTells -/
set_option maxRecDepth 100000 in
set_option maxHeartbeats 1000000 in
theorem law24_GraphTells {l : List Arc} {n : Int} (hll : l.length ≤ 9223372036854775807) : Triple Try.prog 3 [.sl 3 (l.map arcC), .int n] [] (Is (.v (.bool true)) []) := by
  refine triple_of Try.func3 rfl (by kernel_rfl) rfl (by simp) ?_
  refine aSeq ?_
  refine aReg ?_
  refine sp pMa ?_
  refine oNil ?_
  refine aSeq ?_
  refine aSeq ?_
  refine aReg ?_
  refine sp pM ?_
  refine sp (by first | exact pLm sl_22 | exact pLs sl_22) ?_
  refine sp pB ?_
  refine oNil ?_
  refine aCondDec rfl (fun c10 => ?_) (fun c10 => ?_)
  · skip
    refine aSeq ?_
    refine aReg ?_
    refine sq ?_
    refine qCallV rfl rfl (by decide) rfl rfl (lents_refl _) law24_awake ?_
    refine sp pMa ?_
    refine oNil ?_
    refine aRet ?_
    refine finIs rfl ?_
    rfl
  · skip
    refine aSkip ?_
    refine aSeq ?_
    refine aReg ?_
    refine sp pM ?_
    refine sp pM ?_
    refine sa ?_
    first | refine coM rfl rfl rfl (graph_From (l := l) (n := n) (by omega)) (fun g14 k14 => ?_) | refine co rfl rfl rfl (graph_From (l := l) (n := n) (by omega)) (fun g14 k14 => ?_)
    refine sp pM ?_
    refine sp pM ?_
    refine sa ?_
    first | refine coM rfl rfl rfl (graph_Cut (l := l) (n := n) (by omega)) (fun g17 k17 => ?_) | refine co rfl rfl rfl (graph_Cut (l := l) (n := n) (by omega)) (fun g17 k17 => ?_)
    refine sp pM ?_
    refine sa ?_
    first | refine coM rfl rfl rfl (graph_Nodes (l := l) (by omega)) (fun g19 k19 => ?_) | refine co rfl rfl rfl (graph_Nodes (l := l) (by omega)) (fun g19 k19 => ?_)
    refine sp pMa ?_
    refine sp pMa ?_
    refine sp pMa ?_
    refine oNil ?_
    refine aSeq ?_
    refine aSeq ?_
    refine aWeak (weak_settle (k := 5) rfl (by repeat constructor) (by first | rfl | (simp; done) | (simp; omega) | (simp_all; done))) ?_
    refine aWeak (weak_settle (k := 6) rfl (by repeat constructor) (by first | rfl | (simp; done) | (simp; omega) | (simp_all; done))) ?_
    refine aWeak (weak_settle (k := 7) rfl (by repeat constructor) (by first | rfl | (simp; done) | (simp; omega) | (simp_all; done))) ?_
    refine aReg ?_
    refine sp pM ?_
    refine sq ?_
    refine cv rfl rfl rfl (lents_refl _) graph_Check ?_
    refine sp pB ?_
    refine sp pM ?_
    refine sq ?_
    refine cv rfl rfl rfl (lents_refl _) ref24_May ?_
    refine sp (pBl (by exact pEqBn bo_4) (show _ = false from by cases arcsB none l <;> rfl)) ?_
    refine oNil ?_
    refine aCondF rfl ?_
    refine aSkip ?_
    refine aSeq ?_
    refine aSeq ?_
    refine aReg ?_
    refine sp pM ?_
    refine sq ?_
    refine cv rfl rfl rfl (lents_refl _) ref24_May ?_
    refine sp pNo ?_
    refine oNil ?_
    refine aCondNot rfl (fun c28 => ?_) (fun c28 => ?_)
    · skip
      refine aSeq ?_
      have hno : arcsB none l = false := by simpa using c28
      refine aReg ?_
      refine sp pM ?_
      refine sp (by first | exact pLm sl_22 | exact pLs sl_22) ?_
      refine sp (pBl (by exact pB) (show _ = true from by simp [hno])) ?_
      refine sp pM ?_
      refine gp pM ?_
      refine gp (by first | exact pLm sl_22 | exact pLs sl_22) ?_
      refine gp (pBl (by exact pB) (show _ = true from by simp [hno])) ?_
      refine sp pK ?_
      refine sp pM ?_
      refine gp pM ?_
      refine gp (by first | exact pLm sl_25 | exact pLs sl_25) ?_
      refine gp (pBl (by exact pB) (show _ = true from by simp [hno])) ?_
      refine sp pK ?_
      refine sp pM ?_
      refine ga ?_
      refine (qCallV rfl rfl (by decide) rfl rfl (lents_refl _) law24_awake ?_).op
      refine sp pK ?_
      refine sp pMa ?_
      refine oNil ?_
      refine aRet ?_
      refine finIs rfl ?_
      rfl
    · skip
      refine aSkip ?_
      refine aSeq ?_
      have hyes : arcsB none l = true := by simpa using c28
      have hok := arcs_ok hyes
      have hb1 : (fromM l n).length ≤ 1000000 := Nat.le_trans (List.length_filter_le _ _) (by omega)
      have hb2 : (cutM l n).length ≤ 1000000 := Nat.le_trans (List.length_filter_le _ _) (by omega)
      have hb3 := nodesM_len l
      have he1 : (if arcsB none l = true then fromM l n else []) = fromM l n := by rw [if_pos hyes]
      have he2 : (if arcsB none l = true then cutM l n else []) = cutM l n := by rw [if_pos hyes]
      have he3 : (if arcsB none l = true then nodesM l else []) = nodesM l := by rw [if_pos hyes]
      have hl1 : (if arcsB none l = true then fromM l n else []).length ≤ 1000000 := by rw [he1]; exact hb1
      have hl2 : (if arcsB none l = true then cutM l n else []).length ≤ 1000000 := by rw [he2]; exact hb2
      have hl3 : (if arcsB none l = true then nodesM l else []).length ≤ 65 := by rw [he3]; exact hb3
      refine aReg ?_
      refine sp pM ?_
      refine sp pM ?_
      refine sp pM ?_
      refine sa ?_
      first | refine coM rfl rfl rfl (ref24_From (l := l) (n := n) (by omega)) (fun g48 k48 => ?_) | refine co rfl rfl rfl (ref24_From (l := l) (n := n) (by omega)) (fun g48 k48 => ?_)
      refine sq ?_
      refine cv rfl rfl rfl (by repeat (first | exact .nil | refine .cons (.sl (by repeat (first | exact List.mem_cons_self | apply List.mem_cons_of_mem)) (by first | rfl | simp)) ?_ | refine .cons (.same _) ?_)) (ref24_Same (by omega) (by omega)) ?_
      rw [show decide ((if arcsB none l = true then fromM l n else []) = fromM l n) = true from decide_eq_true he1]
      refine sp pM ?_
      refine gp pM ?_
      refine gp pM ?_
      refine gp pM ?_
      refine ga ?_
      first | refine coM rfl rfl rfl (ref24_Cut (l := l) (n := n) (by omega)) (fun g54 k54 => ?_) | refine co rfl rfl rfl (ref24_Cut (l := l) (n := n) (by omega)) (fun g54 k54 => ?_)
      refine ga ?_
      refine (cv rfl rfl rfl (by repeat (first | exact .nil | refine .cons (.sl (by repeat (first | exact List.mem_cons_self | apply List.mem_cons_of_mem)) (by first | rfl | simp)) ?_ | refine .cons (.same _) ?_)) (ref24_Same (by omega) (by omega)) ?_).op
      rw [show decide ((if arcsB none l = true then cutM l n else []) = cutM l n) = true from decide_eq_true he2]
      refine sp pK ?_
      refine sp pM ?_
      refine gp pM ?_
      refine gp pM ?_
      refine ga ?_
      first | refine coM rfl rfl rfl (ref24_Nodes (l := l) (by omega) hok) (fun g60 k60 => ?_) | refine co rfl rfl rfl (ref24_Nodes (l := l) (by omega) hok) (fun g60 k60 => ?_)
      refine ga ?_
      refine (cv rfl rfl rfl (by repeat (first | exact .nil | refine .cons (.sl (by repeat (first | exact List.mem_cons_self | apply List.mem_cons_of_mem)) (by first | rfl | simp)) ?_ | refine .cons (.same _) ?_)) (ref24_Ints (by omega) (by omega)) ?_).op
      rw [show decide ((if arcsB none l = true then nodesM l else []) = nodesM l) = true from decide_eq_true he3]
      refine sp pK ?_
      refine sp pM ?_
      refine ga ?_
      refine (qCallV rfl rfl (by decide) rfl rfl (lents_refl _) law24_awake ?_).op
      refine sp pK ?_
      refine sp pMa ?_
      refine oNil ?_
      refine aRet ?_
      refine finIs rfl ?_
      rfl

end A
end Go.Proofs.Ytmcannmjielalaa
