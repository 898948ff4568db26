/- What functions of the program compute: forest40 -/
import Derived.Test.YtkgemkadebgeoaaBforest40q
import Derived.Test.YtkgemkadebgeoaaProg
import Derived.KernelRfl
set_option linter.unusedVariables false
set_option linter.unusedSimpArgs false
namespace Go.Proofs.Ytkgemkadebgeoaa
namespace A

theorem el_56 : elemOf Try.prog 56 = some (64, 3, 24) := by kernel_rfl
theorem es_103 : elemSize Try.prog 103 = some 1 := by kernel_rfl
theorem sl_103 : isSl Try.prog 103 = true := by kernel_rfl
theorem sl_56 : isSl Try.prog 56 = true := by kernel_rfl
theorem ty_3 : tyOf Try.prog 3 = some (1, false) := by kernel_rfl
theorem ty_64 : tyOf Try.prog 64 = some (3, true) := by kernel_rfl
theorem us_56 : Try.prog.underlying 56 = some (.slice 64) := by kernel_rfl
theorem ze_64 : zeroOf Try.prog 64 = some (.agg #[.int .i64 0, .int .i64 0, .int .i64 0]) := by kernel_rfl
def cmpI (a b : Int) : Int := if a < b then -1 else if b < a then 1 else 0
def orI : List Int → Int
  | [] => 0
  | a :: l => if a ≠ 0 then a else orI l
theorem orI_drop {xs : List Int} {i : Nat} {a : Int} (h : xs[i]? = some a) : orI (xs.drop i) = if a ≠ 0 then a else orI (xs.drop (i + 1)) := by
  rw [drop_step h]
  rfl

/- cmp.isNaN[int] -/
set_option maxRecDepth 100000 in
set_option maxHeartbeats 400000 in
theorem cmp_isNaN {n : Int} : Triple Try.prog 107 [.int n] [] (Is (.v (.bool false)) []) := by
  refine triple_of Try.func107 rfl (by kernel_rfl) rfl (by simp) ?_
  refine aSeq ?_
  refine aReg ?_
  refine sp pMa ?_
  refine oNil ?_
  refine aSeq ?_
  refine aReg ?_
  refine sp pM ?_
  refine sp pM ?_
  refine sp pB ?_
  refine sp pMa ?_
  refine oNil ?_
  refine aRet ?_
  refine finIs rfl ?_
  simp [retOf]

/- cmp.Compare[int] -/
set_option maxRecDepth 100000 in
set_option maxHeartbeats 400000 in
theorem cmp_Compare {a b : Int} : Triple Try.prog 81 [.int a, .int b] [] (Is (.v (.int .i64 (cmpI a b))) []) := by
  refine triple_of Try.func81 rfl (by kernel_rfl) rfl (by simp) ?_
  refine aSeq ?_
  refine aReg ?_
  refine sp pMa ?_
  refine oNil ?_
  refine aSeq ?_
  refine aReg ?_
  refine sp pM ?_
  refine sq ?_
  refine cv rfl rfl rfl (lents_refl _) cmp_isNaN ?_
  refine sp pMa ?_
  refine oNil ?_
  refine aSeq ?_
  refine aReg ?_
  refine sp pM ?_
  refine sq ?_
  refine cv rfl rfl rfl (lents_refl _) cmp_isNaN ?_
  refine sp pMa ?_
  refine oNil ?_
  refine aSeq ?_
  refine aSeq ?_
  refine aReg ?_
  refine sp pM ?_
  refine oNil ?_
  refine aCond rfl (fun c11 => ?_) (fun c11 => ?_)
  · skip
    refine aSeq ?_
    refine aSeq ?_
    refine aReg ?_
    refine sp pM ?_
    refine oNil ?_
    refine aCond rfl (fun c12 => ?_) (fun c12 => ?_)
    · skip
      refine aSeq ?_
      refine aReg ?_
      refine sp pMa ?_
      refine oNil ?_
      refine aRet ?_
      refine finIs rfl ?_
      simp_all [retOf, cmpI] <;> omega
    · skip
      refine aSkip ?_
      refine aSeq ?_
      refine aReg ?_
      refine sp pMa ?_
      refine oNil ?_
      refine aRet ?_
      refine finIs rfl ?_
      simp_all [retOf, cmpI] <;> omega
  · skip
    refine aSkip ?_
    refine aSeq ?_
    refine aSeq ?_
    refine aReg ?_
    refine sp pM ?_
    refine oNil ?_
    refine aCond rfl (fun c13 => ?_) (fun c13 => ?_)
    · skip
      refine aSeq ?_
      refine aReg ?_
      refine sp pMa ?_
      refine oNil ?_
      refine aRet ?_
      refine finIs rfl ?_
      simp_all [retOf, cmpI] <;> omega
    · skip
      refine aSkip ?_
      refine aSeq ?_
      refine aSeq ?_
      refine aReg ?_
      refine sp pM ?_
      refine sp pM ?_
      refine sp pB ?_
      refine oNil ?_
      refine aCondDec rfl (fun c16 => ?_) (fun c16 => ?_)
      · skip
        refine aSeq ?_
        refine aReg ?_
        refine sp pMa ?_
        refine oNil ?_
        refine aRet ?_
        refine finIs rfl ?_
        simp_all [retOf, cmpI] <;> omega
      · skip
        refine aSkip ?_
        refine aSeq ?_
        refine aSeq ?_
        refine aReg ?_
        refine sp pM ?_
        refine sp pM ?_
        refine sp pB ?_
        refine oNil ?_
        refine aCondDec rfl (fun c19 => ?_) (fun c19 => ?_)
        · skip
          refine aSeq ?_
          refine aReg ?_
          refine sp pMa ?_
          refine oNil ?_
          refine aRet ?_
          refine finIs rfl ?_
          simp_all [retOf, cmpI] <;> omega
        · skip
          refine aSkip ?_
          refine aSeq ?_
          refine aReg ?_
          refine sp pMa ?_
          refine oNil ?_
          refine aRet ?_
          refine finIs rfl ?_
          simp_all [retOf, cmpI] <;> omega

/- cmp.Or[int] -/
set_option maxRecDepth 100000 in
set_option maxHeartbeats 400000 in
theorem cmp_Or (xs : List Int) (hx : xs.length ≤ 1000 := by simp) : Triple Try.prog 80 [.sl 1 (xs.map intA)] [] (Is (.v (.int .i64 (orI xs))) []) := by
  refine triple_of Try.func80 rfl (by kernel_rfl) rfl (by simp) ?_
  refine aSeq ?_
  refine aReg ?_
  refine sp pMa ?_
  refine oNil ?_
  refine aSeq ?_
  refine aReg ?_
  refine sp pMa ?_
  refine oNil ?_
  refine aSeq ?_
  refine aSeq ?_
  refine aReg ?_
  refine sp pM ?_
  refine sp (by first | exact pLm sl_103 | exact pLs sl_103) ?_
  refine sp pM ?_
  refine oNil ?_
  refine aBlock ?_
  refine loopF (α := Nat) (kept := [(3, _), (6, _), (7, _)]) (fun i => i ≤ xs.length ∧ orI (xs.drop i) = orI xs) (fun i => [(8, .int i)]) (fun i => []) (fun i => xs.length - i) 0 ?_ ⟨gInt rfl (by first | rfl | omega | simp), rfl, rfl, rfl, trivial⟩ (by repeat constructor) ?_
  · skip
    exact ⟨by omega, rfl⟩
  · rintro i ⟨hi, ho⟩
    refine aSeq ?_
    refine aReg ?_
    refine sp pB ?_
    refine oNil ?_
    refine aSeq ?_
    refine aCondDec rfl (fun c9 => ?_) (fun c9 => ?_)
    · skip
      refine aSkip ?_
      refine aSeq ?_
      refine aBlock ?_
      refine aSeq ?_
      refine aReg ?_
      first | refine sp (pIx es_103) ?_ | (refine obtSN 6 8 rfl rfl (by omega) (fun x10 hx10 => ?_); refine sp (pIs es_103 hx10) ?_) | (refine obtS 6 8 rfl rfl (by omega) (by omega) (fun x10 hx10 => ?_); refine sp (pIs es_103 hx10) ?_) | refine sp (pIo es_103) ?_
      refine sr (rS1 ty_3) ?_
      refine sp pMa ?_
      refine oNil ?_
      refine aSeq ?_
      refine aReg ?_
      refine sp pM ?_
      refine sp pM ?_
      refine sp pB ?_
      refine oNil ?_
      refine aCondNe rfl (fun c14 => ?_) (fun c14 => ?_)
      · skip
        refine aSeq ?_
        refine aReg ?_
        refine sp pM ?_
        refine sp pMa ?_
        refine oNil ?_
        refine aRet ?_
        refine finIs rfl ?_
        show AV.int _ = AV.int _
        congr 2
        first | (rw [← ho, orI_drop hx10, if_pos (by assumption)]; done) | (rw [← ho, List.drop_of_length_le (by omega)]; rfl)
      · skip
        refine aSkip ?_
        refine aReg ?_
        refine sp pAd ?_
        refine sp pM ?_
        refine oNil ?_
        refine ⟨i + 1, ?_, by (try dsimp only); omega, ⟨gInt rfl (by first | rfl | omega | simp), rfl, rfl, rfl, trivial⟩, _, (by repeat constructor)⟩
        exact ⟨by omega, by rw [← ho, orI_drop hx10]; simp_all⟩
    · skip
      refine aExit rfl ?_
      refine aSeq ?_
      refine aReg ?_
      refine sp pM ?_
      refine sp pMa ?_
      refine oNil ?_
      refine aRet ?_
      refine finIs rfl ?_
      show AV.int _ = AV.int _
      congr 2
      first | (rw [← ho, orI_drop hx10, if_pos (by assumption)]; done) | (rw [← ho, List.drop_of_length_le (by omega)]; rfl)

/- api.Edge] -/
set_option maxRecDepth 100000 in
set_option maxHeartbeats 400000 in
theorem clone_edges {l : List Edge} (hl : l.length ≤ 1000000 := by omega) : Triple Try.prog 77 [.sl 3 (l.map edgeC)] [] (Own 64 3 (l.map edgeC) []) := by
  refine triple_of Try.func77 rfl (by kernel_rfl) rfl (by simp) ?_
  refine aSeq ?_
  refine aReg ?_
  refine sp pMa ?_
  refine oNil ?_
  refine aSeq ?_
  refine aSeq ?_
  refine aReg ?_
  refine sp pM ?_
  refine sa ?_
  refine oSlNil rfl (.inl rfl) rfl sl_56 rfl (by decide) (fun q4 hq4 => ?_)
  refine oNil ?_
  refine aCond rfl (fun c4 => ?_) (fun c4 => ?_)
  · skip
    refine aSeq ?_
    refine aWeak (weak_nil 64 3) ?_
    refine aReg ?_
    refine sp pMa ?_
    refine oNil ?_
    refine aRet ?_
    have he : l = [] := by
      cases l with
      | nil => rfl
      | cons x l => have := hq4 (by simp); simp_all
    subst he
    exact ⟨_, _, _, rfl, .cons .hd .nil, none, 0, rfl, rfl⟩
  · skip
    refine aSkip ?_
    refine aSeq ?_
    refine aReg ?_
    refine sq ?_
    refine qLit (l := []) rfl rfl (by decide) us_56 ty_64 ze_64 rfl (by decide) (by decide) rfl rfl rfl (fun b5 => ?_)
    refine sp pM ?_
    refine sa ?_
    first | refine oAppT (out := []) _ rfl rfl (by repeat constructor) (.inl rfl) el_56 sl_56 (fun g7 k7 => ?_) | refine oAppT (out := []) _ rfl rfl (by repeat constructor) (srcOwn rfl (by repeat constructor) (by first | rfl | simp)) el_56 sl_56 (fun g7 k7 => ?_)
    refine sp pMa ?_
    refine oNil ?_
    refine aRet ?_
    refine finOwn rfl ?_
    rfl

end A
end Go.Proofs.Ytkgemkadebgeoaa
