/- What functions of the program compute: fib43 -/
import Derived.Test.YtkgemkadebgeoaaBfib43p
import Derived.Test.YtkgemkadebgeoaaProg
import Derived.KernelRfl
set_option linter.unusedVariables false
set_option linter.unusedSimpArgs false
namespace Go.Proofs.Ytkgemkadebgeoaa
namespace A

theorem es_103 : elemSize Try.prog 103 = some 1 := by kernel_rfl
theorem es_113 : elemSize Try.prog 113 = some 3 := by kernel_rfl
theorem fd_125_0 : fieldOf Try.prog 125 0 = some (0, 1, false) := by kernel_rfl
theorem fd_125_1 : fieldOf Try.prog 125 1 = some (1, 1, false) := by kernel_rfl
theorem fd_125_2 : fieldOf Try.prog 125 2 = some (2, 1, false) := by kernel_rfl
theorem sl_103 : isSl Try.prog 103 = true := by kernel_rfl
theorem sl_113 : isSl Try.prog 113 = true := by kernel_rfl
theorem st_125 : structPlaces Try.prog 125 = some [(0, 1), (1, 1), (2, 1)] := by kernel_rfl
theorem st_170 : structPlaces Try.prog 170 = some [(0, 1), (1, 1), (2, 1)] := by kernel_rfl
theorem ty_125 : tyOf Try.prog 125 = some (3, true) := by kernel_rfl
theorem ty_170 : tyOf Try.prog 170 = some (3, true) := by kernel_rfl
theorem ty_60 : tyOf Try.prog 60 = some (1, false) := by kernel_rfl
theorem ze_125 : zeroOf Try.prog 125 = some (.agg #[.int .i64 0, .int .i64 0, .int .u64 0]) := by kernel_rfl
theorem ze_170 : zeroOf Try.prog 170 = some (.agg #[.int .u64 0, .int .i64 0, .int .i64 0]) := by kernel_rfl
def rtC (r : Rt) : List AV := [.int r.nd, .int r.via, .v (.int .u64 r.c)]
def wayV (w : Way) : List Value := [.int .u64 w.c, .int .i64 w.nd, .int .i64 w.via]
def wayC (w : Way) : List AV := [.v (.int .u64 w.c), .int w.nd, .int w.via]
abbrev wayA (w : Way) : AV := .agg (wayC w)
def pfxK (p : PfxK) : List Value := [.int .u32 (p.1 : Int), .int .i64 p.2]
theorem kt_Pfx : KeyT Try.prog 29 pfxK 2 [(0, .i), (1, .i)] where
  pln := by kernel_rfl
  wide := by kernel_rfl
  len := fun _ => rfl
  eq := fun a b => by
    obtain ⟨a1, a2⟩ := a
    obtain ⟨b1, b2⟩ := b
    simp [pfxK, eqLeaves, eqLeaf, Prod.mk.injEq]
    rw [Bool.eq_iff_iff]
    simp
    intro _
    omega
  one := fun _ => rfl
  bits := fun a => by simp [pfxK, Instr.sameBits]
theorem cast_way : Cast (.v (.agg #[.int .u64 0, .int .i64 0, .int .i64 0])) (wayA ⟨0, 0, 0⟩) := cast_key (kf := wayV) (a := ⟨0, 0, 0⟩) rfl
def idxF {α : Type} (p : α → Bool) : List α → Int
  | [] => -1
  | x :: l => if p x then 0 else if idxF p l < 0 then -1 else idxF p l + 1
theorem idxF_no {α : Type} {p : α → Bool} : ∀ {l : List α}, (∀ x ∈ l, p x = false) → idxF p l = -1 ∧ l.find? p = none
  | [], _ => ⟨rfl, rfl⟩
  | x :: l, h => by
    have h1 := h x (by simp)
    obtain ⟨h2, h3⟩ := idxF_no (l := l) (fun y hy => h y (by simp [hy]))
    simp [idxF, List.find?, h1, h2, h3]
theorem idxF_at {α : Type} {p : α → Bool} : ∀ {l : List α} {i : Nat} {x : α}, (∀ y ∈ l.take i, p y = false) → l[i]? = some x → p x = true → idxF p l = i ∧ l.find? p = some x
  | [], _, _, _, h, _ => by simp at h
  | y :: l, 0, x, _, h, hp => by simp at h; subst h; simp [idxF, List.find?, hp]
  | y :: l, i + 1, x, h, hx, hp => by
    have h1 := h y (by simp)
    obtain ⟨h2, h3⟩ := idxF_at (l := l) (i := i) (fun z hz => h z (by simp [hz])) (by simpa using hx) hp
    simp only [idxF, List.find?, h1, h2, h3, Bool.false_eq_true, if_false]
    rw [if_neg (by omega)]
    refine ⟨by simp, ?_⟩
    first | rfl | trivial
theorem idxF_cases {α : Type} (p : α → Bool) (l : List α) : (idxF p l = -1 ∧ l.find? p = none) ∨ ∃ i x, idxF p l = (i : Nat) ∧ l[i]? = some x ∧ l.find? p = some x := by
  induction l with
  | nil => exact .inl ⟨rfl, rfl⟩
  | cons y l ih =>
    cases hp : p y with
    | true => exact .inr ⟨0, y, by simp [idxF, hp], rfl, by simp [List.find?, hp]⟩
    | false =>
      rcases ih with ⟨h1, h2⟩ | ⟨i, x, h1, h2, h3⟩
      · exact .inl ⟨by simp [idxF, hp, h1], by simp [List.find?, hp, h2]⟩
      · refine .inr ⟨i + 1, x, ?_, by simpa using h2, by simp [List.find?, hp, h3]⟩
        simp only [idxF, hp, h1, Bool.false_eq_true, if_false]
        rw [if_neg (by omega)]
        simp

/- cmp.isNaN[int] -/
set_option maxRecDepth 100000 in
set_option maxHeartbeats 400000 in
theorem cmp_isNaN {n : Int} : Triple Try.prog 107 [.int n] [] (Is (.v (.bool false)) []) := by
  refine triple_of Try.func107 rfl (by kernel_rfl) rfl (by simp) ?_
  refine aSeq ?_
  refine aReg ?_
  refine sp pMa ?_
  refine oNil ?_
  refine aSeq ?_
  refine aReg ?_
  refine sp pM ?_
  refine sp pM ?_
  refine sp pB ?_
  refine sp pMa ?_
  refine oNil ?_
  refine aRet ?_
  refine finIs rfl ?_
  simp [retOf]

/- cmp.Compare[int] -/
set_option maxRecDepth 100000 in
set_option maxHeartbeats 400000 in
theorem cmp_Compare {a b : Int} : Triple Try.prog 81 [.int a, .int b] [] (Is (.v (.int .i64 (cmpI a b))) []) := by
  refine triple_of Try.func81 rfl (by kernel_rfl) rfl (by simp) ?_
  refine aSeq ?_
  refine aReg ?_
  refine sp pMa ?_
  refine oNil ?_
  refine aSeq ?_
  refine aReg ?_
  refine sp pM ?_
  refine sq ?_
  refine cv rfl rfl rfl (lents_refl _) cmp_isNaN ?_
  refine sp pMa ?_
  refine oNil ?_
  refine aSeq ?_
  refine aReg ?_
  refine sp pM ?_
  refine sq ?_
  refine cv rfl rfl rfl (lents_refl _) cmp_isNaN ?_
  refine sp pMa ?_
  refine oNil ?_
  refine aSeq ?_
  refine aSeq ?_
  refine aReg ?_
  refine sp pM ?_
  refine oNil ?_
  refine aCond rfl (fun c11 => ?_) (fun c11 => ?_)
  · skip
    refine aSeq ?_
    refine aSeq ?_
    refine aReg ?_
    refine sp pM ?_
    refine oNil ?_
    refine aCond rfl (fun c12 => ?_) (fun c12 => ?_)
    · skip
      refine aSeq ?_
      refine aReg ?_
      refine sp pMa ?_
      refine oNil ?_
      refine aRet ?_
      refine finIs rfl ?_
      simp_all [retOf, cmpI] <;> omega
    · skip
      refine aSkip ?_
      refine aSeq ?_
      refine aReg ?_
      refine sp pMa ?_
      refine oNil ?_
      refine aRet ?_
      refine finIs rfl ?_
      simp_all [retOf, cmpI] <;> omega
  · skip
    refine aSkip ?_
    refine aSeq ?_
    refine aSeq ?_
    refine aReg ?_
    refine sp pM ?_
    refine oNil ?_
    refine aCond rfl (fun c13 => ?_) (fun c13 => ?_)
    · skip
      refine aSeq ?_
      refine aReg ?_
      refine sp pMa ?_
      refine oNil ?_
      refine aRet ?_
      refine finIs rfl ?_
      simp_all [retOf, cmpI] <;> omega
    · skip
      refine aSkip ?_
      refine aSeq ?_
      refine aSeq ?_
      refine aReg ?_
      refine sp pM ?_
      refine sp pM ?_
      refine sp pB ?_
      refine oNil ?_
      refine aCondDec rfl (fun c16 => ?_) (fun c16 => ?_)
      · skip
        refine aSeq ?_
        refine aReg ?_
        refine sp pMa ?_
        refine oNil ?_
        refine aRet ?_
        refine finIs rfl ?_
        simp_all [retOf, cmpI] <;> omega
      · skip
        refine aSkip ?_
        refine aSeq ?_
        refine aSeq ?_
        refine aReg ?_
        refine sp pM ?_
        refine sp pM ?_
        refine sp pB ?_
        refine oNil ?_
        refine aCondDec rfl (fun c19 => ?_) (fun c19 => ?_)
        · skip
          refine aSeq ?_
          refine aReg ?_
          refine sp pMa ?_
          refine oNil ?_
          refine aRet ?_
          refine finIs rfl ?_
          simp_all [retOf, cmpI] <;> omega
        · skip
          refine aSkip ?_
          refine aSeq ?_
          refine aReg ?_
          refine sp pMa ?_
          refine oNil ?_
          refine aRet ?_
          refine finIs rfl ?_
          simp_all [retOf, cmpI] <;> omega

/- cmp.isNaN[uint32] -/
set_option maxRecDepth 100000 in
set_option maxHeartbeats 400000 in
theorem cmp_isNaN_u32 {n : Int} : Triple Try.prog 140 [.v (.int .u32 n)] [] (Is (.v (.bool false)) []) := by
  refine triple_of Try.func140 rfl (by kernel_rfl) rfl (by simp) ?_
  refine aSeq ?_
  refine aReg ?_
  refine sp pMa ?_
  refine oNil ?_
  refine aSeq ?_
  refine aReg ?_
  refine sp pM ?_
  refine sp pM ?_
  refine sp pB ?_
  refine sp pMa ?_
  refine oNil ?_
  refine aRet ?_
  refine finIs rfl ?_
  simp [retOf]

/- cmp.Compare[uint32] -/
set_option maxRecDepth 100000 in
set_option maxHeartbeats 400000 in
theorem cmp_Compare_u32 {a b : Int} : Triple Try.prog 119 [.v (.int .u32 a), .v (.int .u32 b)] [] (Is (.v (.int .i64 (cmpI a b))) []) := by
  refine triple_of Try.func119 rfl (by kernel_rfl) rfl (by simp) ?_
  refine aSeq ?_
  refine aReg ?_
  refine sp pMa ?_
  refine oNil ?_
  refine aSeq ?_
  refine aReg ?_
  refine sp pM ?_
  refine sq ?_
  refine cv rfl rfl rfl (lents_refl _) cmp_isNaN_u32 ?_
  refine sp pMa ?_
  refine oNil ?_
  refine aSeq ?_
  refine aReg ?_
  refine sp pM ?_
  refine sq ?_
  refine cv rfl rfl rfl (lents_refl _) cmp_isNaN_u32 ?_
  refine sp pMa ?_
  refine oNil ?_
  refine aSeq ?_
  refine aSeq ?_
  refine aReg ?_
  refine sp pM ?_
  refine oNil ?_
  refine aCond rfl (fun c11 => ?_) (fun c11 => ?_)
  · skip
    refine aSeq ?_
    refine aSeq ?_
    refine aReg ?_
    refine sp pM ?_
    refine oNil ?_
    refine aCond rfl (fun c12 => ?_) (fun c12 => ?_)
    · skip
      refine aSeq ?_
      refine aReg ?_
      refine sp pMa ?_
      refine oNil ?_
      refine aRet ?_
      refine finIs rfl ?_
      simp_all [retOf, cmpI] <;> omega
    · skip
      refine aSkip ?_
      refine aSeq ?_
      refine aReg ?_
      refine sp pMa ?_
      refine oNil ?_
      refine aRet ?_
      refine finIs rfl ?_
      simp_all [retOf, cmpI] <;> omega
  · skip
    refine aSkip ?_
    refine aSeq ?_
    refine aSeq ?_
    refine aReg ?_
    refine sp pM ?_
    refine oNil ?_
    refine aCond rfl (fun c13 => ?_) (fun c13 => ?_)
    · skip
      refine aSeq ?_
      refine aReg ?_
      refine sp pMa ?_
      refine oNil ?_
      refine aRet ?_
      refine finIs rfl ?_
      simp_all [retOf, cmpI] <;> omega
    · skip
      refine aSkip ?_
      refine aSeq ?_
      refine aSeq ?_
      refine aReg ?_
      refine sp pM ?_
      refine sp pM ?_
      refine sp pB ?_
      refine oNil ?_
      refine aCondDec rfl (fun c16 => ?_) (fun c16 => ?_)
      · skip
        refine aSeq ?_
        refine aReg ?_
        refine sp pMa ?_
        refine oNil ?_
        refine aRet ?_
        refine finIs rfl ?_
        simp_all [retOf, cmpI] <;> omega
      · skip
        refine aSkip ?_
        refine aSeq ?_
        refine aSeq ?_
        refine aReg ?_
        refine sp pM ?_
        refine sp pM ?_
        refine sp pB ?_
        refine oNil ?_
        refine aCondDec rfl (fun c19 => ?_) (fun c19 => ?_)
        · skip
          refine aSeq ?_
          refine aReg ?_
          refine sp pMa ?_
          refine oNil ?_
          refine aRet ?_
          refine finIs rfl ?_
          simp_all [retOf, cmpI] <;> omega
        · skip
          refine aSkip ?_
          refine aSeq ?_
          refine aReg ?_
          refine sp pMa ?_
          refine oNil ?_
          refine aRet ?_
          refine finIs rfl ?_
          simp_all [retOf, cmpI] <;> omega

/- cmp.isNaN[uint64] -/
set_option maxRecDepth 100000 in
set_option maxHeartbeats 400000 in
theorem cmp_isNaN_u64 {n : Int} : Triple Try.prog 142 [.v (.int .u64 n)] [] (Is (.v (.bool false)) []) := by
  refine triple_of Try.func142 rfl (by kernel_rfl) rfl (by simp) ?_
  refine aSeq ?_
  refine aReg ?_
  refine sp pMa ?_
  refine oNil ?_
  refine aSeq ?_
  refine aReg ?_
  refine sp pM ?_
  refine sp pM ?_
  refine sp pB ?_
  refine sp pMa ?_
  refine oNil ?_
  refine aRet ?_
  refine finIs rfl ?_
  simp [retOf]

/- cmp.Compare[uint64] -/
set_option maxRecDepth 100000 in
set_option maxHeartbeats 400000 in
theorem cmp_Compare_u64 {a b : Int} : Triple Try.prog 121 [.v (.int .u64 a), .v (.int .u64 b)] [] (Is (.v (.int .i64 (cmpI a b))) []) := by
  refine triple_of Try.func121 rfl (by kernel_rfl) rfl (by simp) ?_
  refine aSeq ?_
  refine aReg ?_
  refine sp pMa ?_
  refine oNil ?_
  refine aSeq ?_
  refine aReg ?_
  refine sp pM ?_
  refine sq ?_
  refine cv rfl rfl rfl (lents_refl _) cmp_isNaN_u64 ?_
  refine sp pMa ?_
  refine oNil ?_
  refine aSeq ?_
  refine aReg ?_
  refine sp pM ?_
  refine sq ?_
  refine cv rfl rfl rfl (lents_refl _) cmp_isNaN_u64 ?_
  refine sp pMa ?_
  refine oNil ?_
  refine aSeq ?_
  refine aSeq ?_
  refine aReg ?_
  refine sp pM ?_
  refine oNil ?_
  refine aCond rfl (fun c11 => ?_) (fun c11 => ?_)
  · skip
    refine aSeq ?_
    refine aSeq ?_
    refine aReg ?_
    refine sp pM ?_
    refine oNil ?_
    refine aCond rfl (fun c12 => ?_) (fun c12 => ?_)
    · skip
      refine aSeq ?_
      refine aReg ?_
      refine sp pMa ?_
      refine oNil ?_
      refine aRet ?_
      refine finIs rfl ?_
      simp_all [retOf, cmpI] <;> omega
    · skip
      refine aSkip ?_
      refine aSeq ?_
      refine aReg ?_
      refine sp pMa ?_
      refine oNil ?_
      refine aRet ?_
      refine finIs rfl ?_
      simp_all [retOf, cmpI] <;> omega
  · skip
    refine aSkip ?_
    refine aSeq ?_
    refine aSeq ?_
    refine aReg ?_
    refine sp pM ?_
    refine oNil ?_
    refine aCond rfl (fun c13 => ?_) (fun c13 => ?_)
    · skip
      refine aSeq ?_
      refine aReg ?_
      refine sp pMa ?_
      refine oNil ?_
      refine aRet ?_
      refine finIs rfl ?_
      simp_all [retOf, cmpI] <;> omega
    · skip
      refine aSkip ?_
      refine aSeq ?_
      refine aSeq ?_
      refine aReg ?_
      refine sp pM ?_
      refine sp pM ?_
      refine sp pB ?_
      refine oNil ?_
      refine aCondDec rfl (fun c16 => ?_) (fun c16 => ?_)
      · skip
        refine aSeq ?_
        refine aReg ?_
        refine sp pMa ?_
        refine oNil ?_
        refine aRet ?_
        refine finIs rfl ?_
        simp_all [retOf, cmpI] <;> omega
      · skip
        refine aSkip ?_
        refine aSeq ?_
        refine aSeq ?_
        refine aReg ?_
        refine sp pM ?_
        refine sp pM ?_
        refine sp pB ?_
        refine oNil ?_
        refine aCondDec rfl (fun c19 => ?_) (fun c19 => ?_)
        · skip
          refine aSeq ?_
          refine aReg ?_
          refine sp pMa ?_
          refine oNil ?_
          refine aRet ?_
          refine finIs rfl ?_
          simp_all [retOf, cmpI] <;> omega
        · skip
          refine aSkip ?_
          refine aSeq ?_
          refine aReg ?_
          refine sp pMa ?_
          refine oNil ?_
          refine aRet ?_
          refine finIs rfl ?_
          simp_all [retOf, cmpI] <;> omega

/- cmp.Or[int] -/
set_option maxRecDepth 100000 in
set_option maxHeartbeats 400000 in
theorem cmp_Or (xs : List Int) (hx : xs.length ≤ 1000 := by simp) : Triple Try.prog 80 [.sl 1 (xs.map intA)] [] (Is (.v (.int .i64 (orI xs))) []) := by
  refine triple_of Try.func80 rfl (by kernel_rfl) rfl (by simp) ?_
  refine aSeq ?_
  refine aReg ?_
  refine sp pMa ?_
  refine oNil ?_
  refine aSeq ?_
  refine aReg ?_
  refine sp pMa ?_
  refine oNil ?_
  refine aSeq ?_
  refine aSeq ?_
  refine aReg ?_
  refine sp pM ?_
  refine sp (by first | exact pLm sl_103 | exact pLs sl_103) ?_
  refine sp pM ?_
  refine oNil ?_
  refine aBlock ?_
  refine loopF (α := Nat) (kept := [(3, _), (6, _), (7, _)]) (fun i => i ≤ xs.length ∧ orI (xs.drop i) = orI xs) (fun i => [(8, .int i)]) (fun i => []) (fun i => xs.length - i) 0 ?_ ⟨gInt rfl (by first | rfl | omega | simp), rfl, rfl, rfl, trivial⟩ (by repeat constructor) ?_
  · skip
    exact ⟨by omega, rfl⟩
  · rintro i ⟨hi, ho⟩
    refine aSeq ?_
    refine aReg ?_
    refine sp pB ?_
    refine oNil ?_
    refine aSeq ?_
    refine aCondDec rfl (fun c9 => ?_) (fun c9 => ?_)
    · skip
      refine aSkip ?_
      refine aSeq ?_
      refine aBlock ?_
      refine aSeq ?_
      refine aReg ?_
      first | refine sp (pIx es_103) ?_ | (refine obtSN 6 8 rfl rfl (by omega) (fun x10 hx10 => ?_); refine sp (pIs es_103 hx10) ?_) | (refine obtS 6 8 rfl rfl (by omega) (by omega) (fun x10 hx10 => ?_); refine sp (pIs es_103 hx10) ?_) | refine sp (pIo es_103) ?_
      refine sr (rS1 ty_3) ?_
      refine sp pMa ?_
      refine oNil ?_
      refine aSeq ?_
      refine aReg ?_
      refine sp pM ?_
      refine sp pM ?_
      refine sp pB ?_
      refine oNil ?_
      refine aCondNe rfl (fun c14 => ?_) (fun c14 => ?_)
      · skip
        refine aSeq ?_
        refine aReg ?_
        refine sp pM ?_
        refine sp pMa ?_
        refine oNil ?_
        refine aRet ?_
        refine finIs rfl ?_
        show AV.int _ = AV.int _
        congr 2
        first | (rw [← ho, orI_drop hx10, if_pos (by assumption)]; done) | (rw [← ho, List.drop_of_length_le (by omega)]; rfl)
      · skip
        refine aSkip ?_
        refine aReg ?_
        refine sp pAd ?_
        refine sp pM ?_
        refine oNil ?_
        refine ⟨i + 1, ?_, by (try dsimp only); omega, ⟨gInt rfl (by first | rfl | omega | simp), rfl, rfl, rfl, trivial⟩, _, (by repeat constructor)⟩
        exact ⟨by omega, by rw [← ho, orI_drop hx10]; simp_all⟩
    · skip
      refine aExit rfl ?_
      refine aSeq ?_
      refine aReg ?_
      refine sp pM ?_
      refine sp pMa ?_
      refine oNil ?_
      refine aRet ?_
      refine finIs rfl ?_
      show AV.int _ = AV.int _
      congr 2
      first | (rw [← ho, orI_drop hx10, if_pos (by assumption)]; done) | (rw [← ho, List.drop_of_length_le (by omega)]; rfl)

/- api.Route] -/
set_option maxRecDepth 100000 in
set_option maxHeartbeats 400000 in
theorem index_Route {f : FuncId} {caps : List AV} {p : Rt → Bool} (hf : ∀ x : Rt, Triple Try.prog f ([AV.agg (rtC x)] ++ caps) [] (Is (.v (.bool (p x))) [])) (l : List Rt) (hl : l.length ≤ 1000000) : Triple Try.prog 165 [.sl 3 (l.map rtC), .fn (.func f) caps] [] (Is (.v (.int .i64 (idxF p l))) []) := by
  refine triple_of Try.func165 rfl (by kernel_rfl) rfl (by simp) ?_
  refine aSeq ?_
  refine aReg ?_
  refine sp pMa ?_
  refine oNil ?_
  refine aSeq ?_
  refine aSeq ?_
  refine aReg ?_
  refine sp pM ?_
  refine sp (by first | exact pLm sl_113 | exact pLs sl_113) ?_
  refine sp pM ?_
  refine oNil ?_
  refine aBlock ?_
  refine loopF (α := Nat) (kept := [(0, _), (1, _), (7, _)]) (fun i => i ≤ l.length ∧ ∀ y ∈ l.take i, p y = false) (fun i => [(8, .int i)]) (fun i => []) (fun i => l.length - i) 0 ?_ ⟨gInt rfl (by first | rfl | omega | simp), rfl, rfl, rfl, trivial⟩ (by repeat constructor) ?_
  · skip
    exact ⟨by omega, fun y hy => by simp at hy⟩
  · rintro i ⟨hi, hv⟩
    refine aSeq ?_
    refine aReg ?_
    refine sp pB ?_
    refine oNil ?_
    refine aSeq ?_
    refine aCondDec rfl (fun c9 => ?_) (fun c9 => ?_)
    · skip
      refine aSkip ?_
      refine aSeq ?_
      refine aBlock ?_
      refine aSeq ?_
      refine aReg ?_
      refine sp pM ?_
      refine sp pMa ?_
      refine oNil ?_
      refine aSeq ?_
      obtain ⟨x, hx⟩ : ∃ x, l[i]? = some x := ⟨_, List.getElem?_eq_getElem (by omega)⟩
      refine aReg ?_
      refine sp pM ?_
      refine sp pM ?_
      refine sp pM ?_
      first | refine sp (pIx es_113) ?_ | (refine obtSN 12 13 rfl rfl (by omega) (fun x14 hx14 => ?_); refine sp (pIs es_113 hx14) ?_) | (refine obtS 12 13 rfl rfl (by omega) (by omega) (fun x14 hx14 => ?_); refine sp (pIs es_113 hx14) ?_) | refine sp (pIo es_113) ?_
      refine sr (by first | exact rSW ty_125 rfl | exact rSA ty_125) ?_
      refine sq ?_
      refine cv rfl rfl rfl (lents_refl _) (hf x) ?_
      refine oNil ?_
      refine aCond rfl (fun c16 => ?_) (fun c16 => ?_)
      · skip
        refine aSeq ?_
        refine aReg ?_
        refine sp pM ?_
        refine sp pMa ?_
        refine oNil ?_
        refine aRet ?_
        refine finIs rfl ?_
        show AV.int _ = AV.int _
        rw [(idxF_at hv hx (by simp_all)).1]
      · skip
        refine aSkip ?_
        refine aReg ?_
        refine sp pAd ?_
        refine sp pM ?_
        refine oNil ?_
        refine ⟨i + 1, ?_, by (try dsimp only); omega, ⟨gInt rfl (by first | rfl | omega | simp), rfl, rfl, rfl, trivial⟩, _, (by repeat constructor)⟩
        refine ⟨by omega, fun y hy => ?_⟩
        rw [take_step hx] at hy
        rcases List.mem_append.1 hy with hy | hy
        · exact hv y hy
        · rw [List.mem_singleton.1 hy]; simp_all
    · skip
      refine aExit rfl ?_
      refine aSeq ?_
      refine aReg ?_
      refine sp pMa ?_
      refine oNil ?_
      refine aRet ?_
      refine finIs rfl ?_
      show AV.int _ = AV.int _
      rw [take_all (by omega)] at hv
      rw [(idxF_no hv).1]

/- route.Find$1 -/
set_option maxRecDepth 100000 in
set_option maxHeartbeats 400000 in
theorem route_Find1 {x : Rt} {n : Int} : Triple Try.prog 166 [.agg (rtC x), .sp [.int n]] [] (Is (.v (.bool (x.nd == n))) []) := by
  refine triple_of Try.func166 rfl (by kernel_rfl) rfl (by simp) ?_
  refine aSeq ?_
  refine aReg ?_
  refine sq ?_
  refine qBox rfl rfl (by decide) rfl rfl (fun b2 => ?_)
  refine sp pMa ?_
  refine oNil ?_
  refine aSeq ?_
  refine aReg ?_
  refine sp (pFb fd_125_0) ?_
  refine sr (rB1 ty_3) ?_
  refine sr (rS1 ty_3) ?_
  refine sp pB ?_
  refine sp pMa ?_
  refine oNil ?_
  refine aRet ?_
  refine finIs rfl ?_
  rfl

def findT2 (rs : List Rt) (n : Int) : AV := .tup [.agg (rtC ((findR rs n).getD ⟨0, 0, 0⟩)), .v (.bool (findR rs n).isSome)]
def reachA (me : Int) (rs : List Rt) (x : Int) : Way := if x = me then ⟨0, x, -1⟩ else match findR rs x with | some r => ⟨r.c, x, r.via⟩ | none => ⟨0, x, 0⟩
def reachB (me : Int) (rs : List Rt) (x : Int) : Bool := (reachM me rs x).isSome
theorem reach_some {me : Int} {rs : List Rt} {x : Int} (h : reachB me rs x = true) : reachM me rs x = some (reachA me rs x) := by
  unfold reachB at h
  unfold reachM reachA at *
  split
  · rfl
  · rename_i hne
    rw [if_neg hne] at h
    cases hf : findR rs x with
    | none => rw [hf] at h; cases h
    | some r => rfl
theorem reach_none {me : Int} {rs : List Rt} {x : Int} (h : reachB me rs x = false) : reachM me rs x = none := by
  unfold reachB at h
  cases hr : reachM me rs x with
  | none => rfl
  | some w => rw [hr] at h; cases h

/- route.Find -/
set_option maxRecDepth 100000 in
set_option maxHeartbeats 400000 in
theorem route_Find {rs : List Rt} {n : Int} (hl : rs.length ≤ 1000000) : Triple Try.prog 141 [.sl 3 (rs.map rtC), .int n] [] (Is (findT2 rs n) []) := by
  refine triple_ofR Try.func141 rfl (by kernel_rfl) rfl (by simp) ?_
  refine aSeq ?_
  refine aReg ?_
  refine sq ?_
  refine qBox rfl rfl (by decide) rfl rfl (fun b3 => ?_)
  refine sq ?_
  refine qAlloc rfl rfl (by decide) ze_125 rfl (fun b4 => ?_)
  refine sp pMa ?_
  refine oNil ?_
  refine aSeq ?_
  refine aReg ?_
  refine sp pM ?_
  refine sp (pFn rfl rfl) ?_
  refine sq ?_
  refine cv rfl rfl rfl (.cons (.same _) (.cons (lent_fn1 (.sp (by repeat (first | exact List.mem_cons_self | apply List.mem_cons_of_mem)))) .nil)) (index_Route (p := fun x => x.nd == n) (fun x => route_Find1) rs hl) ?_
  refine sp pMa ?_
  refine oNil ?_
  refine aSeq ?_
  refine aSeq ?_
  refine aReg ?_
  refine sp pM ?_
  refine sp pB ?_
  refine oNil ?_
  refine aCondDec rfl (fun c11 => ?_) (fun c11 => ?_)
  · skip
    refine aSeq ?_
    refine aReg ?_
    refine sp (pBuild rfl st_125 ze_125 rfl rfl rfl rfl) ?_
    refine sa ?_
    refine oStW rfl rfl rfl rfl (by repeat constructor) ty_125 ?_
    refine sp pMa ?_
    refine oNil ?_
    refine aRet ?_
    refine finRIs (l := [.agg (rtC ⟨0, 0, 0⟩), .v (.bool false)]) (.cons (.cellA rfl (by repeat (first | exact List.mem_cons_self | apply List.mem_cons_of_mem)) ty_125) (.cons (.tmp rfl) .nil)) ?_
    have h2 : rs.find? (fun x : Rt => x.nd == n) = none := by
      rcases idxF_cases (fun x : Rt => x.nd == n) rs with ⟨h1, h2⟩ | ⟨i, x, h1, h2, h3⟩
      · exact h2
      · omega
    simp [findT2, findR, h2, retOf]
  · skip
    refine aSkip ?_
    refine aSeq ?_
    obtain ⟨i, x, h1, h2, h3⟩ : ∃ i x, idxF (fun x : Rt => x.nd == n) rs = (i : Nat) ∧ rs[i]? = some x ∧ rs.find? (fun x : Rt => x.nd == n) = some x := by
      rcases idxF_cases (fun x : Rt => x.nd == n) rs with ⟨h1, h2⟩ | h
      · omega
      · exact h
    rw [h1] at *
    refine aReg ?_
    refine sp pM ?_
    refine sp pM ?_
    first | refine sp (pIx es_113) ?_ | (refine obtSN 13 14 rfl rfl (by omega) (fun x15 hx15 => ?_); refine sp (pIs es_113 hx15) ?_) | (refine obtS 13 14 rfl rfl (by omega) (by omega) (fun x15 hx15 => ?_); refine sp (pIs es_113 hx15) ?_) | refine sp (pIo es_113) ?_
    refine sr (by first | exact rSW ty_125 rfl | exact rSA ty_125) ?_
    refine sa ?_
    refine oStW rfl rfl rfl rfl (by repeat constructor) ty_125 ?_
    refine sp pMa ?_
    refine oNil ?_
    refine aRet ?_
    refine finRIs (l := [.agg (rtC x), .v (.bool true)]) (.cons (.cellA rfl (by repeat (first | exact List.mem_cons_self | apply List.mem_cons_of_mem)) ty_125) (.cons (.tmp rfl) .nil)) ?_
    simp [findT2, findR, h3, retOf]

/- fib.reach -/
set_option maxRecDepth 100000 in
set_option maxHeartbeats 400000 in
theorem fib_reach {me x : Int} {rs : List Rt} (hl : rs.length ≤ 1000000) : Triple Try.prog 120 [.int me, .sl 3 (rs.map rtC), .int x] [] (Is (.tup [wayA (reachA me rs x), .v (.bool (reachB me rs x))]) []) := by
  refine triple_ofR Try.func120 rfl (by kernel_rfl) rfl (by simp) ?_
  refine aSeq ?_
  refine aReg ?_
  refine sq ?_
  refine qAlloc rfl rfl (by decide) ze_170 rfl (fun b6 => ?_)
  refine sp pMa ?_
  refine oNil ?_
  refine aSeq ?_
  refine aSeq ?_
  refine aReg ?_
  refine sp pM ?_
  refine sp pM ?_
  refine sp pB ?_
  refine oNil ?_
  refine aCondEq rfl (fun c12 => ?_) (fun c12 => ?_)
  · skip
    refine aSeq ?_
    refine aReg ?_
    refine sp pM ?_
    refine sp (pBuild rfl st_170 ze_170 rfl rfl rfl rfl) ?_
    refine sa ?_
    refine oStW rfl rfl rfl rfl (by repeat constructor) ty_170 ?_
    refine sp pMa ?_
    refine oNil ?_
    refine aRet ?_
    refine finRIs (l := [.agg (wayC ⟨0, x, -1⟩), .v (.bool true)]) (.cons (.cellA rfl (by repeat (first | exact List.mem_cons_self | apply List.mem_cons_of_mem)) ty_170) (.cons (.tmp rfl) .nil)) ?_
    simp_all [reachA, reachB, reachM, retOf]
  · skip
    refine aSkip ?_
    refine aSeq ?_
    refine aReg ?_
    refine sp pM ?_
    refine sp pM ?_
    refine sq ?_
    refine ci rfl rfl rfl (route_Find hl) ?_
    unfold findT2
    refine sp pM ?_
    refine sp pX ?_
    refine sp pX ?_
    refine sq ?_
    refine qAlloc rfl rfl (by decide) ze_125 rfl (fun b8 => ?_)
    refine sa ?_
    refine oStW rfl rfl rfl rfl (by repeat constructor) ty_125 ?_
    refine sp pMa ?_
    refine oNil ?_
    refine aSeq ?_
    refine aReg ?_
    refine sp (pFb fd_125_2) ?_
    refine sr (rB1 ty_60) ?_
    refine sp pM ?_
    refine sp (pFb fd_125_1) ?_
    refine sr (rB1 ty_3) ?_
    refine sp (pBuild rfl st_170 ze_170 rfl rfl rfl rfl) ?_
    refine sp pM ?_
    refine sa ?_
    refine oStW rfl rfl rfl rfl (by repeat constructor) ty_170 ?_
    refine sp pMa ?_
    refine oNil ?_
    refine aRet ?_
    refine finRIs (l := [.agg (wayC ⟨((findR rs x).getD ⟨0, 0, 0⟩).c, x, ((findR rs x).getD ⟨0, 0, 0⟩).via⟩), .v (.bool (findR rs x).isSome)]) (.cons (.cellA rfl (by repeat (first | exact List.mem_cons_self | apply List.mem_cons_of_mem)) ty_170) (.cons (.tmp rfl) .nil)) ?_
    have hne : ¬ x = me := by assumption
    cases hf : findR rs x with
    | none => simp [reachA, reachB, reachM, hf, hne, retOf]
    | some r => simp [reachA, reachB, reachM, hf, hne, retOf]

end A
end Go.Proofs.Ytkgemkadebgeoaa
