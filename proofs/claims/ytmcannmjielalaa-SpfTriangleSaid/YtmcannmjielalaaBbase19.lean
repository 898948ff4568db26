/- What functions of the program compute: base19 -/
import Derived.Test.YtmcannmjielalaaBrefs24c
import Derived.Test.YtmcannmjielalaaProg
import Derived.KernelRfl
set_option linter.unusedVariables false
set_option linter.unusedSimpArgs false
namespace Go.Proofs.Ytmcannmjielalaa
namespace A

theorem es_139 : elemSize Try.prog 139 = some 2 := by kernel_rfl
theorem es_55 : elemSize Try.prog 55 = some 3 := by kernel_rfl
theorem fd_138_0 : fieldOf Try.prog 138 0 = some (0, 1, false) := by kernel_rfl
theorem fd_138_1 : fieldOf Try.prog 138 1 = some (1, 1, false) := by kernel_rfl
theorem fd_141_0 : fieldOf Try.prog 141 0 = some (0, 1, false) := by kernel_rfl
theorem fd_141_1 : fieldOf Try.prog 141 1 = some (1, 1, false) := by kernel_rfl
theorem fd_141_2 : fieldOf Try.prog 141 2 = some (2, 1, false) := by kernel_rfl
theorem mo_253 : mapOf Try.prog 253 = some (3, 141) := by kernel_rfl
theorem sl_139 : isSl Try.prog 139 = true := by kernel_rfl
theorem sl_55 : isSl Try.prog 55 = true := by kernel_rfl
theorem st_141 : structPlaces Try.prog 141 = some [(0, 1), (1, 1), (2, 1)] := by kernel_rfl
theorem st_36 : structPlaces Try.prog 36 = some [(0, 1), (1, 1), (2, 1)] := by kernel_rfl
theorem ty_138 : tyOf Try.prog 138 = some (2, true) := by kernel_rfl
theorem ty_139 : tyOf Try.prog 139 = some (1, false) := by kernel_rfl
theorem ty_141 : tyOf Try.prog 141 = some (3, true) := by kernel_rfl
theorem ze_138 : zeroOf Try.prog 138 = some (.agg #[.int .i64 0, .int .i64 0]) := by kernel_rfl
theorem ze_141 : zeroOf Try.prog 141 = some (.agg #[.int .i64 0, .int .i64 0, .slice none 0 0]) := by kernel_rfl
structure Link where
  t : Int
  c : Int
  deriving DecidableEq
structure Lsa where
  o : Int
  s : Int
  ls : List Link
  deriving DecidableEq
def linkC (x : Link) : List AV := [.int x.t, .int x.c]
def lsaC (l : Lsa) : List AV := [.int l.o, .int l.s, .sl 2 (l.ls.map linkC)]
/-- Links from a place on, behind the last node. -/
def linksB (o : Int) : Int → List Link → Bool
  | _, [] => true
  | last, x :: l => (nodeB x.t && decide (last < x.t) && !(x.t == o) && decide (1 ≤ x.c) && decide (x.c ≤ 1073741824)) && linksB o x.t l
def lsaB (l : Lsa) : Bool := nodeB l.o && decide (1 ≤ l.s) && decide (l.s ≤ 4611686018427387904) && decide (l.ls.length ≤ 16) && linksB l.o 0 l.ls
theorem links_step {o last : Int} {l : List Link} {i : Nat} {x : Link} (h : l[i]? = some x) : linksB o last (l.drop i) = ((nodeB x.t && decide (last < x.t) && !(x.t == o) && decide (1 ≤ x.c) && decide (x.c ≤ 1073741824)) && linksB o x.t (l.drop (i + 1))) := by
  rw [drop_step h]
  rfl

/- lsa.node -/
set_option maxRecDepth 100000 in
set_option maxHeartbeats 400000 in
theorem lsa_node (n : Int) : Triple Try.prog 269 [AV.int n] [] (fun r h' => r = .v (.bool (nodeB n)) ∧ h' = []) := by
  refine triple_of Try.func269 rfl (by kernel_rfl) rfl (by simp) ?_
  refine aSeq ?_
  refine aReg ?_
  refine sp pMa ?_
  refine oNil ?_
  refine aSeq ?_
  refine aReg ?_
  refine sp pM ?_
  refine sp pB ?_
  refine sp pM ?_
  refine oSplitDec 5 rfl (fun c5 => ?_) (fun c5 => ?_)
  · skip
    refine gp pM ?_
    refine gp pB ?_
    refine sp pK ?_
    refine sp pMa ?_
    refine oNil ?_
    refine aRet ?_
    refine ⟨_, [], _, rfl, .nil, ?_, rfl⟩
    simp [retOf, nodeB]
    omega
  · skip
    refine gf ?_
    refine gf ?_
    refine sp pK ?_
    refine sp pMa ?_
    refine oNil ?_
    refine aRet ?_
    refine ⟨_, [], _, rfl, .nil, ?_, rfl⟩
    simp [retOf, nodeB]
    omega

/- lsa.Check -/
set_option maxRecDepth 100000 in
set_option maxHeartbeats 2000000 in
theorem lsa_Check (l : Lsa) : Triple Try.prog 230 [AV.agg (lsaC l)] [] (fun r h' => r = .int (if lsaB l then 0 else 1) ∧ h' = []) := by
  refine triple_of Try.func230 rfl (by kernel_rfl) rfl (by simp) ?_
  refine aSeq ?_
  refine aReg ?_
  refine sq ?_
  refine qBox rfl rfl (by decide) rfl rfl (fun b1 => ?_)
  refine sp pMa ?_
  refine oNil ?_
  refine aSeq ?_
  refine aSeq ?_
  refine aReg ?_
  refine sp (pFb fd_141_0) ?_
  refine sr (rB1 ty_3) ?_
  refine sq ?_
  refine qCallV rfl rfl (by decide) rfl rfl (lents_refl _) (lsa_node _) ?_
  refine sp pNo ?_
  refine sp pM ?_
  refine oSplitNot 10 rfl (fun c10 => ?_) (fun c10 => ?_)
  · skip
    refine gf ?_
    refine gf ?_
    refine gf ?_
    refine sp pK ?_
    refine sp pM ?_
    refine gf ?_
    refine gf ?_
    refine gf ?_
    refine sp pK ?_
    refine sp pM ?_
    refine gf ?_
    refine gf ?_
    refine gf ?_
    refine gf ?_
    refine sp pK ?_
    refine oNil ?_
    refine aCondT rfl ?_
    refine aSeq ?_
    refine aReg ?_
    refine sp pMa ?_
    refine oNil ?_
    refine aRet ?_
    refine ⟨_, [], _, rfl, .nil, ?_, rfl⟩
    show AV.int 1 = AV.int _
    simp_all [lsaB]
    all_goals (intros; omega)
  · skip
    refine gp (pFb fd_141_1) ?_
    refine gr (rB1 ty_3) ?_
    refine gp pB ?_
    refine sp pK ?_
    refine sp pM ?_
    refine oSplitDec 15 rfl (fun c15 => ?_) (fun c15 => ?_)
    · skip
      refine gf ?_
      refine gf ?_
      refine gf ?_
      refine sp pK ?_
      refine sp pM ?_
      refine gf ?_
      refine gf ?_
      refine gf ?_
      refine gf ?_
      refine sp pK ?_
      refine oNil ?_
      refine aCondT rfl ?_
      refine aSeq ?_
      refine aReg ?_
      refine sp pMa ?_
      refine oNil ?_
      refine aRet ?_
      refine ⟨_, [], _, rfl, .nil, ?_, rfl⟩
      show AV.int 1 = AV.int _
      simp_all [lsaB]
      all_goals (intros; omega)
    · skip
      refine gp (pFb fd_141_1) ?_
      refine gr (rB1 ty_3) ?_
      refine gp pB ?_
      refine sp pK ?_
      refine sp pM ?_
      refine oSplitDec 20 rfl (fun c20 => ?_) (fun c20 => ?_)
      · skip
        refine gf ?_
        refine gf ?_
        refine gf ?_
        refine gf ?_
        refine sp pK ?_
        refine oNil ?_
        refine aCondT rfl ?_
        refine aSeq ?_
        refine aReg ?_
        refine sp pMa ?_
        refine oNil ?_
        refine aRet ?_
        refine ⟨_, [], _, rfl, .nil, ?_, rfl⟩
        show AV.int 1 = AV.int _
        simp_all [lsaB]
        all_goals (intros; omega)
      · skip
        refine gp (pFb fd_141_2) ?_
        refine gr (rB1 ty_139) ?_
        refine gp (by first | exact pLm sl_139 | exact pLs sl_139 | exact pLv sl_139) ?_
        refine gp pB ?_
        refine sp pK ?_
        refine oNil ?_
        refine aCondDec rfl (fun c25 => ?_) (fun c25 => ?_)
        · skip
          refine aSeq ?_
          refine aReg ?_
          refine sp pMa ?_
          refine oNil ?_
          refine aRet ?_
          refine ⟨_, [], _, rfl, .nil, ?_, rfl⟩
          show AV.int 1 = AV.int _
          simp_all [lsaB]
          all_goals (intros; omega)
        · skip
          refine aSkip ?_
          refine aSeq ?_
          refine aReg ?_
          refine sp pMa ?_
          refine oNil ?_
          refine aSeq ?_
          refine aSeq ?_
          refine aReg ?_
          refine sp (pFb fd_141_2) ?_
          refine sr (rB1 ty_139) ?_
          refine sp (by first | exact pLm sl_139 | exact pLs sl_139 | exact pLv sl_139) ?_
          refine sp pM ?_
          refine oNil ?_
          refine aBlock ?_
          refine aLoopI (α := Nat × Int) (fun (i, last) => i ≤ l.ls.length ∧ linksB l.o 0 l.ls = linksB l.o last (l.ls.drop i)) (fun (i, last) => ([(1, .v (.pointer (some ⟨b1, 0, none⟩))), (3, .int last), (27, .sl 2 (l.ls.map linkC)), (28, .int l.ls.length), (29, .int i)], [.box b1 (lsaC l)])) (fun (i, last) => l.ls.length - i) (0, 0) ?_ ?_ ?_
          · skip
            exact ⟨by omega, rfl⟩
          · skip
            exact weak_sub ⟨rfl, rfl, rfl, gInt rfl (by simp), rfl, trivial⟩ (by repeat constructor)
          · rintro ⟨i, last⟩ ⟨hi, hv⟩
            skip
            refine aSeq ?_
            refine aReg ?_
            have hlen : l.ls.length ≤ 16 := by simp at *; omega
            refine sp pB ?_
            refine oNil ?_
            refine aSeq ?_
            refine aCondDec rfl (fun c30 => ?_) (fun c30 => ?_)
            · skip
              refine aSkip ?_
              refine aSeq ?_
              refine aBlock ?_
              refine aSeq ?_
              refine aReg ?_
              obtain ⟨a, ha⟩ : ∃ a, l.ls[i]? = some a := ⟨_, List.getElem?_eq_getElem (by omega)⟩
              refine sp (pIdxS rfl rfl rfl es_139 (by omega) (map_get (f := linkC) ha)) ?_
              refine sr (by first | exact rSW ty_138 rfl | exact rSA ty_138 | exact rBWa ty_138 | exact rBW ty_138 | exact rBA ty_138 | exact rArA ty_138 (fun _ => rfl)) ?_
              refine sq ?_
              refine qAlloc rfl rfl (by decide) ze_138 rfl (fun b5 => ?_)
              refine sa ?_
              refine oStW rfl rfl rfl rfl (by repeat constructor) ty_138 ?_
              refine oNil ?_
              refine aSeq ?_
              refine aSeq ?_
              refine aReg ?_
              refine sp (pFb fd_138_0) ?_
              refine sr (rB1 ty_3) ?_
              refine sq ?_
              refine qCallV rfl rfl (by decide) rfl rfl (lents_refl _) (lsa_node _) ?_
              refine sp pNo ?_
              refine sp pM ?_
              refine oSplitNot 37 rfl (fun c37 => ?_) (fun c37 => ?_)
              · skip
                refine gf ?_
                refine gf ?_
                refine gf ?_
                refine gf ?_
                refine sp pK ?_
                refine sp pM ?_
                refine gf ?_
                refine gf ?_
                refine gf ?_
                refine gf ?_
                refine gf ?_
                refine sp pK ?_
                refine sp pM ?_
                refine gf ?_
                refine gf ?_
                refine gf ?_
                refine sp pK ?_
                refine sp pM ?_
                refine gf ?_
                refine gf ?_
                refine gf ?_
                refine sp pK ?_
                refine oNil ?_
                refine aCondT rfl ?_
                refine aSeq ?_
                refine aReg ?_
                refine sp pMa ?_
                refine oNil ?_
                refine aRet ?_
                refine ⟨_, [], _, rfl, .nil, ?_, rfl⟩
                show AV.int 1 = AV.int _
                have hs := links_step (o := l.o) (last := last) ha
                simp_all [lsaB]
                all_goals (intros; omega)
              · skip
                refine gp (pFb fd_138_0) ?_
                refine gr (rB1 ty_3) ?_
                refine gp pM ?_
                refine gp pB ?_
                refine sp pK ?_
                refine sp pM ?_
                refine oSplitDec 43 rfl (fun c43 => ?_) (fun c43 => ?_)
                · skip
                  refine gf ?_
                  refine gf ?_
                  refine gf ?_
                  refine gf ?_
                  refine gf ?_
                  refine sp pK ?_
                  refine sp pM ?_
                  refine gf ?_
                  refine gf ?_
                  refine gf ?_
                  refine sp pK ?_
                  refine sp pM ?_
                  refine gf ?_
                  refine gf ?_
                  refine gf ?_
                  refine sp pK ?_
                  refine oNil ?_
                  refine aCondT rfl ?_
                  refine aSeq ?_
                  refine aReg ?_
                  refine sp pMa ?_
                  refine oNil ?_
                  refine aRet ?_
                  refine ⟨_, [], _, rfl, .nil, ?_, rfl⟩
                  show AV.int 1 = AV.int _
                  have hs := links_step (o := l.o) (last := last) ha
                  simp_all [lsaB]
                  all_goals (intros; omega)
                · skip
                  refine gp (pFb fd_138_0) ?_
                  refine gr (rB1 ty_3) ?_
                  refine gp (by first | exact pFb fd_141_0 | exact pFs fd_141_0) ?_
                  refine gr (by first | exact rS1 ty_3 | exact rB1 ty_3 | exact rAr ty_3 | exact rArL ty_3 | exact rArR2 ty_3) ?_
                  refine gp pB ?_
                  refine sp pK ?_
                  refine sp pM ?_
                  refine oSplitEq 50 rfl (fun c50 => ?_) (fun c50 => ?_)
                  · skip
                    refine gf ?_
                    refine gf ?_
                    refine gf ?_
                    refine sp pK ?_
                    refine sp pM ?_
                    refine gf ?_
                    refine gf ?_
                    refine gf ?_
                    refine sp pK ?_
                    refine oNil ?_
                    refine aCondT rfl ?_
                    refine aSeq ?_
                    refine aReg ?_
                    refine sp pMa ?_
                    refine oNil ?_
                    refine aRet ?_
                    refine ⟨_, [], _, rfl, .nil, ?_, rfl⟩
                    show AV.int 1 = AV.int _
                    have hs := links_step (o := l.o) (last := last) ha
                    simp_all [lsaB]
                    all_goals (intros; omega)
                  · skip
                    refine gp (pFb fd_138_1) ?_
                    refine gr (rB1 ty_3) ?_
                    refine gp pB ?_
                    refine sp pK ?_
                    refine sp pM ?_
                    refine oSplitDec 55 rfl (fun c55 => ?_) (fun c55 => ?_)
                    · skip
                      refine gf ?_
                      refine gf ?_
                      refine gf ?_
                      refine sp pK ?_
                      refine oNil ?_
                      refine aCondT rfl ?_
                      refine aSeq ?_
                      refine aReg ?_
                      refine sp pMa ?_
                      refine oNil ?_
                      refine aRet ?_
                      refine ⟨_, [], _, rfl, .nil, ?_, rfl⟩
                      show AV.int 1 = AV.int _
                      have hs := links_step (o := l.o) (last := last) ha
                      simp_all [lsaB]
                      all_goals (intros; omega)
                    · skip
                      refine gp (pFb fd_138_1) ?_
                      refine gr (rB1 ty_3) ?_
                      refine gp pB ?_
                      refine sp pK ?_
                      refine oNil ?_
                      refine aCondDec rfl (fun c59 => ?_) (fun c59 => ?_)
                      · skip
                        refine aSeq ?_
                        refine aReg ?_
                        refine sp pMa ?_
                        refine oNil ?_
                        refine aRet ?_
                        refine ⟨_, [], _, rfl, .nil, ?_, rfl⟩
                        show AV.int 1 = AV.int _
                        have hs := links_step (o := l.o) (last := last) ha
                        simp_all [lsaB]
                        all_goals (intros; omega)
                      · skip
                        refine aSkip ?_
                        refine aReg ?_
                        refine sp (pFb fd_138_0) ?_
                        refine sr (rB1 ty_3) ?_
                        refine sp pMa ?_
                        refine oNil ?_
                        refine aReg ?_
                        refine sp pAd ?_
                        refine sp pM ?_
                        refine oNil ?_
                        have hs := links_step (o := l.o) (last := last) ha
                        refine ⟨(i + 1, a.t), ⟨by omega, ?_⟩, by show l.ls.length - (i + 1) < l.ls.length - i; omega, weak_sub ⟨rfl, rfl, rfl, rfl, gInt rfl (by simp), trivial⟩ (by repeat constructor)⟩
                        rw [hv, hs]
                        simp_all
                        all_goals (intros; omega)
            · skip
              refine aExit rfl ?_
              refine aSeq ?_
              refine aReg ?_
              refine sp pMa ?_
              refine oNil ?_
              refine aRet ?_
              refine ⟨_, [], _, rfl, .nil, ?_, rfl⟩
              show AV.int 0 = AV.int _
              rw [List.drop_of_length_le (by omega)] at hv
              simp_all [lsaB, linksB]
              all_goals (intros; omega)

/-- The place of the first that is meant. -/
def idxI {α : Type} (p : α → Bool) : List α → Nat → Option Nat
  | [], _ => none
  | a :: l, i => if p a then some i else idxI p l (i + 1)
def idxV (o : Option Nat) : Int := match o with | some i => (i : Int) | none => -1
theorem idx_step {α : Type} {p : α → Bool} {l : List α} {i : Nat} {a : α} (h : l[i]? = some a) : idxI p (l.drop i) i = if p a then some i else idxI p (l.drop (i + 1)) (i + 1) := by
  rw [drop_step h]
  rfl
theorem idx_some {α : Type} {p : α → Bool} : ∀ {l : List α} {s i : Nat}, idxI p l s = some i → s ≤ i ∧ ∃ a, l[i - s]? = some a ∧ l.find? p = some a
  | [], s, i, h => by simp [idxI] at h
  | a :: l, s, i, h => by
    simp only [idxI] at h
    by_cases hp : p a = true
    · rw [if_pos hp] at h
      simp only [Option.some.injEq] at h
      subst h
      exact ⟨Nat.le_refl _, a, by simp, by simp [hp]⟩
    · rw [if_neg hp] at h
      obtain ⟨h1, b, h2, h3⟩ := idx_some h
      refine ⟨by omega, b, ?_, by simp [hp, h3]⟩
      rw [show i - s = (i - (s + 1)) + 1 by omega]
      simpa using h2
theorem idx_none {α : Type} {p : α → Bool} : ∀ {l : List α} {s : Nat}, idxI p l s = none → l.find? p = none
  | [], s, h => rfl
  | a :: l, s, h => by
    simp only [idxI] at h
    by_cases hp : p a = true
    · rw [if_pos hp] at h; cases h
    · rw [if_neg hp] at h
      simp [hp, idx_none h]

/- api.Link] -/
set_option maxRecDepth 100000 in
set_option maxHeartbeats 400000 in
theorem index_Link {f : FuncId} {caps : List AV} {p : Link → Bool} (hf : ∀ x : Link, Triple Try.prog f ([AV.agg (linkC x)] ++ caps) [] (fun r h' => r = .v (.bool (p x)) ∧ h' = [])) (l : List Link) (hl : l.length < 4611686018427387904) : Triple Try.prog 237 [AV.sl 2 (l.map linkC), .fn (.func f) caps] [] (fun r h' => r = .int (idxV (idxI p l 0)) ∧ h' = []) := by
  refine triple_of Try.func237 rfl (by kernel_rfl) rfl (by simp) ?_
  refine aSeq ?_
  refine aReg ?_
  refine sp pMa ?_
  refine oNil ?_
  refine aSeq ?_
  refine aSeq ?_
  refine aReg ?_
  refine sp pM ?_
  refine sp (by first | exact pLm sl_139 | exact pLs sl_139) ?_
  refine sp pM ?_
  refine oNil ?_
  refine aBlock ?_
  refine aLoopI (α := Nat) (fun i => i ≤ l.length ∧ idxI p l 0 = idxI p (l.drop i) i) (fun i => ([(0, .sl 2 (l.map linkC)), (1, .fn (.func f) caps), (7, .int l.length), (8, .int i)], [])) (fun i => l.length - i) 0 ?_ ?_ ?_
  · skip
    exact ⟨by omega, rfl⟩
  · skip
    exact weak_sub ⟨rfl, rfl, gInt rfl (by simp), rfl, trivial⟩ .nil
  · rintro i ⟨hi, hv⟩
    skip
    refine aSeq ?_
    refine aReg ?_
    refine sp pB ?_
    refine oNil ?_
    refine aSeq ?_
    refine aCondDec rfl (fun c9 => ?_) (fun c9 => ?_)
    · skip
      refine aSkip ?_
      refine aSeq ?_
      refine aBlock ?_
      refine aSeq ?_
      refine aReg ?_
      refine sp pM ?_
      refine sp pMa ?_
      refine oNil ?_
      refine aSeq ?_
      refine aReg ?_
      refine sp pM ?_
      refine sp pM ?_
      refine sp pM ?_
      obtain ⟨a, ha⟩ : ∃ a, l[i]? = some a := ⟨_, List.getElem?_eq_getElem (by omega)⟩
      refine sp (pIdxS rfl rfl rfl es_139 (by omega) (map_get (f := linkC) ha)) ?_
      refine sr (by first | exact rSW ty_138 rfl | exact rSA ty_138 | exact rBWa ty_138 | exact rBW ty_138 | exact rBA ty_138 | exact rArA ty_138 (fun _ => rfl)) ?_
      refine sq ?_
      refine qCallV rfl rfl (by decide) rfl rfl (lents_refl _) (hf a) ?_
      refine oNil ?_
      refine aCond rfl (fun c16 => ?_) (fun c16 => ?_)
      · skip
        refine aSeq ?_
        refine aReg ?_
        refine sp pM ?_
        refine sp pMa ?_
        refine oNil ?_
        refine aRet ?_
        refine ⟨_, [], _, rfl, .nil, ?_, rfl⟩
        show AV.int _ = AV.int _
        rw [hv, idx_step ha]
        simp_all [idxV]
      · skip
        refine aSkip ?_
        refine aReg ?_
        refine sp pAd ?_
        refine sp pM ?_
        refine oNil ?_
        refine ⟨i + 1, ⟨by omega, by rw [hv, idx_step ha]; simp_all⟩, by show l.length - (i + 1) < l.length - i; omega, weak_sub ⟨rfl, rfl, rfl, gInt rfl (by simp), trivial⟩ .nil⟩
    · skip
      refine aExit rfl ?_
      refine aSeq ?_
      refine aReg ?_
      refine sp pMa ?_
      refine oNil ?_
      refine aRet ?_
      refine ⟨_, [], _, rfl, .nil, ?_, rfl⟩
      show AV.int _ = AV.int _
      rw [hv, List.drop_of_length_le (by omega)]
      rfl

/- lsa.Cost$1 -/
set_option maxRecDepth 100000 in
set_option maxHeartbeats 400000 in
theorem lsa_Cost1 (x : Link) (n : Int) : Triple Try.prog 238 [AV.agg (linkC x), .sp [.int n]] [] (fun r h' => r = .v (.bool (x.t == n)) ∧ h' = []) := by
  refine triple_of Try.func238 rfl (by kernel_rfl) rfl (by simp) ?_
  refine aSeq ?_
  refine aReg ?_
  refine sq ?_
  refine qBox rfl rfl (by decide) rfl rfl (fun b2 => ?_)
  refine sp pMa ?_
  refine oNil ?_
  refine aSeq ?_
  refine aReg ?_
  refine sp (pFb fd_138_0) ?_
  refine sr (rB1 ty_3) ?_
  refine sr (rS1 ty_3) ?_
  refine sp pB ?_
  refine sp pMa ?_
  refine oNil ?_
  refine aRet ?_
  exact ⟨_, [], _, rfl, .nil, rfl, rfl⟩

def costL (ls : List Link) (n : Int) : Int := match ls.find? (fun x => x.t == n) with | some x => x.c | none => 0

/- lsa.Cost -/
set_option maxRecDepth 100000 in
set_option maxHeartbeats 400000 in
theorem lsa_Cost (l : Lsa) (n : Int) (hl : l.ls.length < 4611686018427387904) : Triple Try.prog 160 [AV.agg (lsaC l), AV.int n] [] (fun r h' => r = .int (costL l.ls n) ∧ h' = []) := by
  refine triple_of Try.func160 rfl (by kernel_rfl) rfl (by simp) ?_
  refine aSeq ?_
  refine aReg ?_
  refine sq ?_
  refine qBox rfl rfl (by decide) rfl rfl (fun b2 => ?_)
  refine sq ?_
  refine qBox rfl rfl (by decide) rfl rfl (fun b3 => ?_)
  refine sp pMa ?_
  refine oNil ?_
  refine aSeq ?_
  refine aReg ?_
  refine sp (pFb fd_141_2) ?_
  refine sr (rB1 ty_139) ?_
  refine sp (pFn rfl rfl) ?_
  refine sq ?_
  refine qCallV rfl rfl (by decide) rfl rfl (.cons (.same _) (.cons (lent_fn1 (.sp List.mem_cons_self)) .nil)) (index_Link (p := fun x => x.t == n) (fun x => lsa_Cost1 x n) l.ls hl) ?_
  refine sp pMa ?_
  refine oNil ?_
  refine aSeq ?_
  refine aSeq ?_
  refine aReg ?_
  refine sp pM ?_
  refine sp pB ?_
  refine oNil ?_
  refine aCondDec rfl (fun c11 => ?_) (fun c11 => ?_)
  · skip
    refine aSeq ?_
    refine aReg ?_
    refine sp pMa ?_
    refine oNil ?_
    refine aRet ?_
    refine ⟨_, [], _, rfl, .nil, ?_, rfl⟩
    show AV.int 0 = AV.int _
    cases hx : idxI (fun x : Link => x.t == n) l.ls 0 with
    | none => rw [costL, idx_none hx]
    | some i => rw [hx] at c11; exact absurd c11 (by simp [idxV])
  · skip
    refine aSkip ?_
    refine aSeq ?_
    refine aReg ?_
    refine sp (pFb fd_141_2) ?_
    refine sr (rB1 ty_139) ?_
    refine sp pM ?_
    obtain ⟨i, hi⟩ : ∃ i, idxI (fun x : Link => x.t == n) l.ls 0 = some i := by
      cases hx : idxI (fun x : Link => x.t == n) l.ls 0 with
      | none => rw [hx] at c11; exact absurd (show ((-1 : Int) < 0) by decide) c11
      | some i => exact ⟨i, rfl⟩
    obtain ⟨_, a, ha, hf⟩ := idx_some hi
    refine sp (pIdxS rfl rfl rfl es_139 (by rw [hi]; exact Int.natCast_nonneg _) (by rw [hi]; exact map_get (f := linkC) ha)) ?_
    refine sp (by first | exact pFb fd_138_1 | exact pFs fd_138_1) ?_
    refine sr (by first | exact rS1 ty_3 | exact rB1 ty_3 | exact rAr ty_3 | exact rArL ty_3 | exact rArR2 ty_3) ?_
    refine sp pMa ?_
    refine oNil ?_
    refine aRet ?_
    refine ⟨_, [], _, rfl, .nil, ?_, rfl⟩
    show AV.int _ = AV.int _
    rw [costL, hf]

def lsdbB : Int → List Lsa → Bool
  | _, [] => true
  | last, x :: l => (lsaB x && decide (last < x.o)) && lsdbB x.o l
theorem lsdb_step {last : Int} {l : List Lsa} {i : Nat} {x : Lsa} (h : l[i]? = some x) : lsdbB last (l.drop i) = ((lsaB x && decide (last < x.o)) && lsdbB x.o (l.drop (i + 1))) := by
  rw [drop_step h]
  rfl
theorem lsdb_len : ∀ {l : List Lsa} {last : Int}, 0 ≤ last → lsdbB last l = true → last + l.length ≤ 64 ∨ l = []
  | [], last, _, _ => .inr rfl
  | x :: l, last, h0, h => by
    simp only [lsdbB, Bool.and_eq_true, decide_eq_true_eq] at h
    obtain ⟨⟨h1, h2⟩, h3⟩ := h
    have h4 : x.o ≤ 64 := by simp only [lsaB, nodeB, Bool.and_eq_true, decide_eq_true_eq] at h1; omega
    rcases lsdb_len (by omega) h3 with h5 | h5
    · left; simp only [List.length_cons]; omega
    · subst h5; left; simp only [List.length_cons, List.length_nil]; omega
theorem lsdb_len64 {l : List Lsa} (h : lsdbB 0 l = true) : l.length ≤ 64 := by
  rcases lsdb_len (Int.le_refl 0) h with h | h
  · omega
  · subst h; simp
theorem lsdb_mem : ∀ {l : List Lsa} {last : Int}, lsdbB last l = true → ∀ x ∈ l, lsaB x = true
  | [], _, _, x, hx => by simp at hx
  | y :: l, last, h, x, hx => by
    simp only [lsdbB, Bool.and_eq_true, decide_eq_true_eq] at h
    rcases List.mem_cons.1 hx with rfl | hx
    · exact h.1.1
    · exact lsdb_mem h.2 x hx
theorem lsa_links {l : Lsa} (h : lsaB l = true) : l.ls.length ≤ 16 := by simp only [lsaB, Bool.and_eq_true, decide_eq_true_eq] at h; omega

/- lsdb.Check -/
set_option maxRecDepth 100000 in
set_option maxHeartbeats 400000 in
theorem lsdb_Check (l : List Lsa) (hl : l.length < 9223372036854775807) : Triple Try.prog 137 [AV.sl 3 (l.map lsaC)] [] (fun r h' => r = .int (if lsdbB 0 l then 0 else 1) ∧ h' = []) := by
  refine triple_of Try.func137 rfl (by kernel_rfl) rfl (by simp) ?_
  refine aSeq ?_
  refine aReg ?_
  refine sp pMa ?_
  refine oNil ?_
  refine aSeq ?_
  refine aReg ?_
  refine sp pMa ?_
  refine oNil ?_
  refine aSeq ?_
  refine aSeq ?_
  refine aReg ?_
  refine sp pM ?_
  refine sp (by first | exact pLm sl_55 | exact pLs sl_55) ?_
  refine sp pM ?_
  refine oNil ?_
  refine aBlock ?_
  refine aLoopI (α := Nat × Int) (fun (i, last) => i ≤ l.length ∧ lsdbB 0 l = lsdbB last (l.drop i)) (fun (i, last) => ([(3, .int last), (6, .sl 3 (l.map lsaC)), (7, .int l.length), (8, .int i)], [])) (fun (i, last) => l.length - i) (0, 0) ?_ ?_ ?_
  · skip
    exact ⟨by omega, rfl⟩
  · skip
    exact weak_sub ⟨rfl, rfl, gInt rfl (by simp), rfl, trivial⟩ .nil
  · rintro ⟨i, last⟩ ⟨hi, hv⟩
    skip
    refine aSeq ?_
    refine aReg ?_
    refine sp pB ?_
    refine oNil ?_
    refine aSeq ?_
    refine aCondDec rfl (fun c9 => ?_) (fun c9 => ?_)
    · skip
      refine aSkip ?_
      refine aSeq ?_
      refine aBlock ?_
      refine aSeq ?_
      refine aReg ?_
      obtain ⟨a, ha⟩ : ∃ a, l[i]? = some a := ⟨_, List.getElem?_eq_getElem (by omega)⟩
      refine sp (pIdxS rfl rfl rfl es_55 (by omega) (map_get (f := lsaC) ha)) ?_
      refine sr (by first | exact rSW ty_141 rfl | exact rSA ty_141 | exact rBWa ty_141 | exact rBW ty_141 | exact rBA ty_141 | exact rArA ty_141 (fun _ => rfl)) ?_
      refine sq ?_
      refine qAlloc rfl rfl (by decide) ze_141 rfl (fun b5 => ?_)
      refine sa ?_
      refine oStW rfl rfl rfl rfl (by repeat constructor) ty_141 ?_
      refine oNil ?_
      refine aSeq ?_
      refine aSeq ?_
      refine aReg ?_
      refine sr (by first | exact rBWa ty_141 | exact rBW ty_141 | exact rBA ty_141) ?_
      refine sq ?_
      refine qCallV rfl rfl (by decide) rfl rfl (lents_refl _) (lsa_Check a) ?_
      refine sp pB ?_
      refine sp pM ?_
      refine oSplitNe 15 rfl (fun c15 => ?_) (fun c15 => ?_)
      · skip
        refine gf ?_
        refine gf ?_
        refine gf ?_
        refine gf ?_
        refine sp pK ?_
        refine oNil ?_
        refine aCondT rfl ?_
        refine aSeq ?_
        refine aReg ?_
        refine sp pMa ?_
        refine oNil ?_
        refine aRet ?_
        refine ⟨_, [], _, rfl, .nil, ?_, rfl⟩
        show AV.int 1 = AV.int _
        have hs := lsdb_step (last := last) ha
        simp_all
        all_goals (intros; omega)
      · skip
        refine gp (pFb fd_141_0) ?_
        refine gr (rB1 ty_3) ?_
        refine gp pM ?_
        refine gp pB ?_
        refine sp pK ?_
        refine oNil ?_
        refine aCondDec rfl (fun c20 => ?_) (fun c20 => ?_)
        · skip
          refine aSeq ?_
          refine aReg ?_
          refine sp pMa ?_
          refine oNil ?_
          refine aRet ?_
          refine ⟨_, [], _, rfl, .nil, ?_, rfl⟩
          show AV.int 1 = AV.int _
          have hs := lsdb_step (last := last) ha
          simp_all
          all_goals (intros; omega)
        · skip
          refine aSkip ?_
          refine aReg ?_
          refine sp (pFb fd_141_0) ?_
          refine sr (rB1 ty_3) ?_
          refine sp pMa ?_
          refine oNil ?_
          refine aReg ?_
          refine sp pAd ?_
          refine sp pM ?_
          refine oNil ?_
          have hs := lsdb_step (last := last) ha
          refine ⟨(i + 1, a.o), ⟨by omega, ?_⟩, by show l.length - (i + 1) < l.length - i; omega, weak_sub ⟨rfl, rfl, rfl, gInt rfl (by simp), trivial⟩ .nil⟩
          rw [hv, hs]
          simp_all
          all_goals (intros; omega)
    · skip
      refine aExit rfl ?_
      refine aSeq ?_
      refine aReg ?_
      refine sp pMa ?_
      refine oNil ?_
      refine aRet ?_
      refine ⟨_, [], _, rfl, .nil, ?_, rfl⟩
      show AV.int 0 = AV.int _
      rw [hv, List.drop_of_length_le (by omega)]
      rfl

def mapDb (db : List Lsa) : List (Int × AV) := db.foldl (fun m l => kvPut m l.o (.agg (lsaC l))) []
theorem mapDb_step {db : List Lsa} {i : Nat} {a : Lsa} (h : db[i]? = some a) : mapDb (db.take (i + 1)) = kvPut (mapDb (db.take i)) a.o (.agg (lsaC a)) := by
  unfold mapDb
  rw [List.take_add_one, h]
  simp [List.foldl_append]
/-- The last one of a node; one of nought, if there is none. -/
def getL (db : List Lsa) (n : Int) : Lsa := (db.reverse.find? (fun l => l.o == n)).getD ⟨0, 0, []⟩
theorem mapDb_get (n : Int) : ∀ (db : List Lsa), kvGet (mapDb db) n = (db.reverse.find? (fun l => l.o == n)).map (fun l => .agg (lsaC l)) := by
  have key : ∀ (db : List Lsa) (m : List (Int × AV)), kvGet (db.foldl (fun m l => kvPut m l.o (.agg (lsaC l))) m) n = ((db.reverse.find? (fun l => l.o == n)).map (fun l => AV.agg (lsaC l))).or (kvGet m n) := by
    intro db
    induction db with
    | nil => intro m; rfl
    | cons a db ih =>
      intro m
      rw [List.foldl_cons, ih, kvGet_put, List.reverse_cons, List.find?_append]
      cases db.reverse.find? (fun l => l.o == n) with
      | some x => rfl
      | none =>
        by_cases h : n = a.o
        · simp [h]
        · have h2 : (a.o == n) = false := by simpa using fun e => h e.symm
          simp [h, h2]
  intro db
  rw [mapDb, key]
  simp [kvGet]
theorem cast_getL (db : List Lsa) (n : Int) : Cast ((kvGet (mapDb db) n).getD (.v (.agg #[.int .i64 0, .int .i64 0, .slice none 0 0]))) (.agg (lsaC (getL db n))) := by
  rw [mapDb_get, getL]
  cases db.reverse.find? (fun l => l.o == n) with
  | some x => exact Cast.refl
  | none =>
    refine cast_agg rfl rfl (fun i y c hy hc => ?_)
    match i with
    | 0 => simp at hy; subst hy; simp [lsaC] at hc; subst hc; exact Cast.refl
    | 1 => simp at hy; subst hy; simp [lsaC] at hc; subst hc; exact Cast.refl
    | 2 => simp at hy; subst hy; simp [lsaC] at hc; subst hc; exact cast_nil
    | i + 3 => simp at hy
theorem getL_len {db : List Lsa} (h : lsdbB 0 db = true) (n : Int) : (getL db n).ls.length ≤ 16 := by
  unfold getL
  cases hf : db.reverse.find? (fun l => l.o == n) with
  | none => simp
  | some x => exact lsa_links (lsdb_mem h x (by simpa using List.mem_of_find?_eq_some hf))
def arcOf (db : List Lsa) (l : Lsa) (x : Link) : Option Arc := if 0 < costL (getL db x.t).ls l.o then some ⟨l.o, x.t, x.c⟩ else none
def arcsOf (db : List Lsa) (l : Lsa) : List Arc := l.ls.filterMap (arcOf db l)
def arcsAll (db : List Lsa) : List Arc := db.flatMap (arcsOf db)
def arcsDb (db : List Lsa) : List Arc := if lsdbB 0 db = true then arcsAll db else []

/- graph.Arcs -/
set_option maxRecDepth 100000 in
set_option maxHeartbeats 2000000 in
theorem graph_Arcs (db : List Lsa) (hl : db.length < 9223372036854775807) : Triple Try.prog 114 [AV.sl 3 (db.map lsaC)] [] (fun r h' => ∃ g c, r = .v (slV g (arcsDb db).length c) ∧ h' = [.sl g c 36 3 ((arcsDb db).map arcC)]) := by
  refine triple_of Try.func114 rfl (by kernel_rfl) rfl (by simp) ?_
  refine aSeq ?_
  refine aReg ?_
  refine sp pMa ?_
  refine oNil ?_
  refine aSeq ?_
  refine aSeq ?_
  refine aReg ?_
  refine sp pM ?_
  refine sq ?_
  refine qCallV rfl rfl (by decide) rfl rfl (lents_refl _) (lsdb_Check db hl) ?_
  refine sp pB ?_
  refine oNil ?_
  refine aCondNe rfl (fun c13 => ?_) (fun c13 => ?_)
  · skip
    refine aSeq ?_
    refine aReg ?_
    refine sp pMa ?_
    refine oNil ?_
    have hB : ¬ lsdbB 0 db = true := fun hb => by rw [hb] at c13; exact absurd rfl c13
    refine aWeak (weak_nil 36 3) ?_
    refine aRet ?_
    refine ⟨_, [_], _, rfl, .cons .hd .nil, none, 0, ?_, ?_⟩
    · rw [arcsDb, if_neg hB]; rfl
    · rw [arcsDb, if_neg hB]; rfl
  · skip
    refine aSkip ?_
    refine aSeq ?_
    have hB : lsdbB 0 db = true := by
      cases hb : lsdbB 0 db with
      | true => rfl
      | false => rw [hb] at c13; exact absurd c13 (by decide)
    have h64 := lsdb_len64 hB
    refine aReg ?_
    refine sq ?_
    refine qMakeMap rfl rfl (by decide) (fun b14 => ?_)
    refine sp pMa ?_
    refine oNil ?_
    refine aSeq ?_
    refine aSeq ?_
    refine aReg ?_
    refine sp pM ?_
    refine sp (by first | exact pLm sl_55 | exact pLs sl_55) ?_
    refine sp pM ?_
    refine oNil ?_
    refine aBlock ?_
    refine aLoopI (α := Nat) (fun i => i ≤ db.length) (fun i => ([(0, .sl 3 (db.map lsaC)), (3, .v (.map (some b14))), (15, .sl 3 (db.map lsaC)), (16, .int db.length), (17, .int i)], [.map b14 (mapDb (db.take i))])) (fun i => db.length - i) 0 ?_ ?_ ?_
    · skip
      omega
    · skip
      exact weak_sub ⟨rfl, rfl, rfl, gInt rfl (by simp), rfl, trivial⟩ (by repeat constructor)
    · rintro i hi
      skip
      refine aSeq ?_
      refine aReg ?_
      refine sp pB ?_
      refine oNil ?_
      refine aSeq ?_
      refine aCondDec rfl (fun c18 => ?_) (fun c18 => ?_)
      · skip
        refine aSkip ?_
        refine aSeq ?_
        refine aBlock ?_
        refine aSeq ?_
        refine aReg ?_
        obtain ⟨a, ha⟩ : ∃ a, db[i]? = some a := ⟨_, List.getElem?_eq_getElem (by omega)⟩
        refine sp (pIdxS rfl rfl rfl es_55 (by omega) (map_get (f := lsaC) ha)) ?_
        refine sr (by first | exact rSW ty_141 rfl | exact rSA ty_141 | exact rBWa ty_141 | exact rBW ty_141 | exact rBA ty_141 | exact rArA ty_141 (fun _ => rfl)) ?_
        refine sq ?_
        refine qAlloc rfl rfl (by decide) ze_141 rfl (fun b5 => ?_)
        refine sa ?_
        refine oStW rfl rfl rfl rfl (by repeat constructor) ty_141 ?_
        refine oNil ?_
        refine aReg ?_
        refine sp pM ?_
        refine sp (pFb fd_141_0) ?_
        refine sr (rB1 ty_3) ?_
        refine sr (by first | exact rBWa ty_141 | exact rBW ty_141 | exact rBA ty_141) ?_
        refine sa ?_
        first | refine oMP rfl rfl rfl rfl mo_253 ?_ | refine oMapSet rfl rfl rfl rfl rfl (by repeat constructor) mo_253 ?_
        refine oNil ?_
        refine aReg ?_
        refine sp pAd ?_
        refine sp pM ?_
        refine oNil ?_
        refine ⟨i + 1, by omega, by show db.length - (i + 1) < db.length - i; omega, ?_⟩
        simp only [mapDb_step ha]
        exact weak_sub ⟨rfl, rfl, rfl, rfl, gInt rfl (by simp), trivial⟩ (by repeat constructor)
      · skip
        refine aExit rfl ?_
        refine aSeq ?_
        refine aReg ?_
        refine sp pMa ?_
        refine oNil ?_
        refine aSeq ?_
        refine aSeq ?_
        refine aReg ?_
        refine sp pM ?_
        refine sp (by first | exact pLm sl_55 | exact pLs sl_55 | exact pLv sl_55) ?_
        refine sp pM ?_
        refine oNil ?_
        refine aBlock ?_
        obtain rfl : i = db.length := by omega
        refine aWeak (weak_nil 36 3) ?_
        rw [List.take_length]
        refine aLoopI (α := Nat × Option Nat × Nat) (fun (i, g, c) => i ≤ db.length ∧ ((db.take i).flatMap (arcsOf db)).length ≤ i * 16) (fun (i, g, c) => ([(0, .sl 3 (db.map lsaC)), (3, .v (.map (some b14))), (26, .sl 3 (db.map lsaC)), (27, .int db.length), (28, .int i), (6, .v (slV g ((db.take i).flatMap (arcsOf db)).length c))], [.sl g c 36 3 (((db.take i).flatMap (arcsOf db)).map arcC), .map b14 (mapDb db)])) (fun (i, g, c) => db.length - i) (0, none, 0) ?_ ?_ ?_
        · skip
          exact ⟨by omega, by simp⟩
        · skip
          exact weak_sub ⟨rfl, rfl, rfl, gInt rfl (by simp), rfl, rfl, trivial⟩ (by repeat constructor)
        · rintro ⟨i, g, c⟩ ⟨hi, hn⟩
          skip
          refine aSeq ?_
          refine aReg ?_
          refine sp pB ?_
          refine oNil ?_
          refine aSeq ?_
          refine aCondDec rfl (fun c29 => ?_) (fun c29 => ?_)
          · skip
            refine aSkip ?_
            refine aSeq ?_
            refine aBlock ?_
            refine aSeq ?_
            refine aReg ?_
            obtain ⟨l, hl2⟩ : ∃ l, db[i]? = some l := ⟨_, List.getElem?_eq_getElem (by omega)⟩
            have hl16 := lsa_links (lsdb_mem hB l (List.mem_of_getElem? hl2))
            refine sp (pIdxS rfl rfl rfl es_55 (by omega) (map_get (f := lsaC) hl2)) ?_
            refine sr (by first | exact rSW ty_141 rfl | exact rSA ty_141 | exact rBWa ty_141 | exact rBW ty_141 | exact rBA ty_141 | exact rArA ty_141 (fun _ => rfl)) ?_
            refine sq ?_
            refine qAlloc rfl rfl (by decide) ze_141 rfl (fun b8 => ?_)
            refine sa ?_
            refine oStW rfl rfl rfl rfl (by repeat constructor) ty_141 ?_
            refine oNil ?_
            refine aSeq ?_
            refine aReg ?_
            refine sp (pFb fd_141_2) ?_
            refine sr (rB1 ty_139) ?_
            refine sp (by first | exact pLm sl_139 | exact pLs sl_139 | exact pLv sl_139) ?_
            refine sp pM ?_
            refine oNil ?_
            refine aBlock ?_
            refine aLoopI (α := Nat × Option Nat × Nat) (fun (k, g', c') => k ≤ l.ls.length ∧ ((l.ls.take k).filterMap (arcOf db l)).length ≤ k) (fun (k, g', c') => ([(0, .sl 3 (db.map lsaC)), (3, .v (.map (some b14))), (8, .v (.pointer (some ⟨b8, 0, none⟩))), (26, .sl 3 (db.map lsaC)), (27, .int db.length), (28, .int i), (33, .sl 2 (l.ls.map linkC)), (34, .int l.ls.length), (35, .int k), (6, .v (slV g' ((db.take i).flatMap (arcsOf db) ++ (l.ls.take k).filterMap (arcOf db l)).length c'))], [.sl g' c' 36 3 (((db.take i).flatMap (arcsOf db) ++ (l.ls.take k).filterMap (arcOf db l)).map arcC), .box b8 (lsaC l), .map b14 (mapDb db)])) (fun (k, g', c') => l.ls.length - k) (0, g, c) ?_ ?_ ?_
            · skip
              exact ⟨by omega, by simp⟩
            · skip
              simp only [List.take_zero, List.filterMap_nil, List.append_nil]
              exact weak_sub ⟨rfl, rfl, rfl, rfl, rfl, rfl, rfl, gInt rfl (by simp), rfl, rfl, trivial⟩ (by repeat constructor)
            · rintro ⟨k, g', c'⟩ ⟨hk, hnk⟩
              skip
              refine aSeq ?_
              refine aReg ?_
              refine sp pB ?_
              refine oNil ?_
              refine aSeq ?_
              refine aCondDec rfl (fun c36 => ?_) (fun c36 => ?_)
              · skip
                refine aSkip ?_
                refine aSeq ?_
                refine aBlock ?_
                refine aSeq ?_
                refine aReg ?_
                obtain ⟨x, hx⟩ : ∃ x, l.ls[k]? = some x := ⟨_, List.getElem?_eq_getElem (by omega)⟩
                refine sp (pIdxS rfl rfl rfl es_139 (by omega) (map_get (f := linkC) hx)) ?_
                refine sr (by first | exact rSW ty_138 rfl | exact rSA ty_138 | exact rBWa ty_138 | exact rBW ty_138 | exact rBA ty_138 | exact rArA ty_138 (fun _ => rfl)) ?_
                refine sq ?_
                refine qAlloc rfl rfl (by decide) ze_138 rfl (fun b10 => ?_)
                refine sa ?_
                refine oStW rfl rfl rfl rfl (by repeat constructor) ty_138 ?_
                refine oNil ?_
                refine aSeq ?_
                refine aReg ?_
                refine sp pM ?_
                refine sp (pFb fd_138_0) ?_
                refine sr (rB1 ty_3) ?_
                refine sr (rCast (rLook rfl rfl rfl (by repeat constructor) mo_253 ze_141 rfl) (cast_getL db x.t)) ?_
                refine sp (by first | exact pFb fd_141_0 | exact pFs fd_141_0) ?_
                refine sr (by first | exact rS1 ty_3 | exact rB1 ty_3 | exact rAr ty_3 | exact rArL ty_3 | exact rArR2 ty_3) ?_
                refine sq ?_
                refine qCallV rfl rfl (by decide) rfl rfl (lents_refl _) (lsa_Cost (getL db x.t) l.o (by have := getL_len hB x.t; omega)) ?_
                refine sp pB ?_
                refine oNil ?_
                refine aCondDec rfl (fun c46 => ?_) (fun c46 => ?_)
                · skip
                  refine aReg ?_
                  refine sp pM ?_
                  refine sp (by first | exact pFb fd_141_0 | exact pFs fd_141_0) ?_
                  refine sr (by first | exact rS1 ty_3 | exact rB1 ty_3 | exact rAr ty_3 | exact rArL ty_3 | exact rArR2 ty_3) ?_
                  refine sp (pFb fd_138_0) ?_
                  refine sr (rB1 ty_3) ?_
                  refine sp (pFb fd_138_1) ?_
                  refine sr (rB1 ty_3) ?_
                  refine sp (pBuild rfl st_36 ze_36 rfl rfl rfl rfl) ?_
                  refine sq ?_
                  refine qLit (l := [_]) rfl rfl (by decide) us_22 ty_36 ze_36 rfl (by decide) (by decide) rfl rfl rfl (fun b55 => ?_)
                  refine sa ?_
                  refine oApp rfl rfl (by decide) rfl (by repeat constructor) (by simp) (srcOwn rfl (by repeat constructor) (by first | rfl | simp)) el_22 sl_22 (by intro z hz; rcases List.mem_cons.1 hz with rfl | hz; rfl; cases hz) (by rw [List.length_map, List.length_append]; show _ + 1 ≤ _; omega) (by rw [List.length_map, List.length_append]; show (_ + 1) * 24 ≤ _; omega) (fun g56 k56 => ?_)
                  refine sp pMa ?_
                  refine oNil ?_
                  refine aReg ?_
                  refine sp pAd ?_
                  refine sp pM ?_
                  refine oNil ?_
                  have hst : (l.ls.take (k + 1)).filterMap (arcOf db l) = (l.ls.take k).filterMap (arcOf db l) ++ (arcOf db l x).toList := by rw [take_step hx, List.filterMap_append]; cases hq : arcOf db l x <;> simp [hq]
                  first
                    | (have hq : arcOf db l x = some ⟨l.o, x.t, x.c⟩ := by simp only [arcOf]; rw [if_pos (by omega)]
                       rw [hq] at hst
                       refine ⟨(k + 1, g56, k56), ⟨by omega, ?_⟩, by show l.ls.length - (k + 1) < l.ls.length - k; omega, ?_⟩
                       · rw [hst, List.length_append]; simp; omega
                       · simp only [hst, Option.toList_some, ← List.append_assoc]
                         exact weak_sub ⟨rfl, rfl, rfl, rfl, rfl, rfl, rfl, rfl, gInt rfl (by simp), gLen rfl (by simp; omega), trivial⟩ (by rw [List.map_append (l₂ := [_])]; repeat constructor))
                    | (have hq : arcOf db l x = none := by simp only [arcOf]; rw [if_neg (by omega)]
                       rw [hq] at hst
                       refine ⟨(k + 1, g', c'), ⟨by omega, ?_⟩, by show l.ls.length - (k + 1) < l.ls.length - k; omega, ?_⟩
                       · rw [hst, List.length_append]; simp; omega
                       · simp only [hst, Option.toList_none, List.append_nil]
                         exact weak_sub ⟨rfl, rfl, rfl, rfl, rfl, rfl, rfl, rfl, gInt rfl (by simp), rfl, trivial⟩ (by repeat constructor))
                · skip
                  refine aSkip ?_
                  refine aReg ?_
                  refine sp pAd ?_
                  refine sp pM ?_
                  refine oNil ?_
                  have hst : (l.ls.take (k + 1)).filterMap (arcOf db l) = (l.ls.take k).filterMap (arcOf db l) ++ (arcOf db l x).toList := by rw [take_step hx, List.filterMap_append]; cases hq : arcOf db l x <;> simp [hq]
                  first
                    | (have hq : arcOf db l x = some ⟨l.o, x.t, x.c⟩ := by simp only [arcOf]; rw [if_pos (by omega)]
                       rw [hq] at hst
                       refine ⟨(k + 1, g56, k56), ⟨by omega, ?_⟩, by show l.ls.length - (k + 1) < l.ls.length - k; omega, ?_⟩
                       · rw [hst, List.length_append]; simp; omega
                       · simp only [hst, Option.toList_some, ← List.append_assoc]
                         exact weak_sub ⟨rfl, rfl, rfl, rfl, rfl, rfl, rfl, rfl, gInt rfl (by simp), gLen rfl (by simp; omega), trivial⟩ (by rw [List.map_append (l₂ := [_])]; repeat constructor))
                    | (have hq : arcOf db l x = none := by simp only [arcOf]; rw [if_neg (by omega)]
                       rw [hq] at hst
                       refine ⟨(k + 1, g', c'), ⟨by omega, ?_⟩, by show l.ls.length - (k + 1) < l.ls.length - k; omega, ?_⟩
                       · rw [hst, List.length_append]; simp; omega
                       · simp only [hst, Option.toList_none, List.append_nil]
                         exact weak_sub ⟨rfl, rfl, rfl, rfl, rfl, rfl, rfl, rfl, gInt rfl (by simp), rfl, trivial⟩ (by repeat constructor))
              · skip
                refine aExit rfl ?_
                refine aReg ?_
                refine sp pAd ?_
                refine sp pM ?_
                refine oNil ?_
                obtain rfl : k = l.ls.length := by omega
                have hstep : (db.take (i + 1)).flatMap (arcsOf db) = (db.take i).flatMap (arcsOf db) ++ (l.ls.take l.ls.length).filterMap (arcOf db l) := by rw [take_step hl2, List.flatMap_append, List.take_length]; simp [arcsOf]
                refine ⟨(i + 1, g', c'), ⟨by omega, ?_⟩, by show db.length - (i + 1) < db.length - i; omega, ?_⟩
                · rw [hstep, List.length_append]; omega
                · simp only [hstep]
                  exact weak_sub ⟨rfl, rfl, rfl, rfl, gInt rfl (by simp), rfl, trivial⟩ (by repeat constructor)
          · skip
            refine aExit rfl ?_
            refine aSeq ?_
            refine aReg ?_
            refine sp pM ?_
            refine sp pMa ?_
            refine oNil ?_
            refine aRet ?_
            obtain rfl : i = db.length := by omega
            refine ⟨_, [_], _, rfl, .cons .hd .nil, g, c, ?_, ?_⟩
            · rw [arcsDb, if_pos hB, arcsAll, List.take_length]; rfl
            · rw [arcsDb, if_pos hB, arcsAll, List.take_length]

def lightB (db : List Lsa) : Bool := decide (db.length ≤ 70) && db.all (fun x => decide (x.ls.length ≤ 40))
theorem all_take {α : Type} {p : α → Bool} {l : List α} {i : Nat} {a : α} (h : l[i]? = some a) : (l.take (i + 1)).all p = ((l.take i).all p && p a) := by rw [take_step h]; simp
theorem all_not {α : Type} {p : α → Bool} {l : List α} {i : Nat} {a : α} (h : l[i]? = some a) (hp : p a = false) : l.all p = false := by
  cases hq : l.all p with
  | false => rfl
  | true => rw [List.all_eq_true] at hq; rw [hq a (List.mem_of_getElem? h)] at hp; cases hp
theorem light_len {db : List Lsa} (h : lightB db = true) : db.length ≤ 70 := by simp only [lightB, Bool.and_eq_true, decide_eq_true_eq] at h; exact h.1
theorem light_mem {db : List Lsa} (h : lightB db = true) {x : Lsa} (hx : x ∈ db) : x.ls.length ≤ 40 := by simp only [lightB, Bool.and_eq_true, List.all_eq_true, decide_eq_true_eq] at h; exact h.2 x hx
def prevT (ls : List Link) (i : Nat) : Int := match prevA ls i with | none => 0 | some x => x.t
def prevO (db : List Lsa) (i : Nat) : Int := match prevA db i with | none => 0 | some x => x.o
theorem prevT_succ {l : List Link} {i : Nat} {a : Link} (h : l[i]? = some a) : prevT l (i + 1) = a.t := by rw [prevT, prevA_succ h]
theorem prevO_succ {l : List Lsa} {i : Nat} {a : Lsa} (h : l[i]? = some a) : prevO l (i + 1) = a.o := by rw [prevO, prevA_succ h]
theorem prevT_eq {l : List Link} {i : Nat} {a : Link} (hi : 0 < i) (h : l[i - 1]? = some a) : prevT l i = a.t := by simp [prevT, prevA, h, show i ≠ 0 by omega]
theorem prevO_eq {l : List Lsa} {i : Nat} {a : Lsa} (hi : 0 < i) (h : l[i - 1]? = some a) : prevO l i = a.o := by simp [prevO, prevA, h, show i ≠ 0 by omega]
theorem prevT_zero {l : List Link} {i : Nat} (hi : i = 0) : prevT l i = 0 := by subst hi; rfl
theorem prevO_zero {l : List Lsa} {i : Nat} (hi : i = 0) : prevO l i = 0 := by subst hi; rfl
def refGet (db : List Lsa) (n : Int) : Lsa := (db.find? (fun l => l.o == n)).getD ⟨0, 0, []⟩
def refArc (db : List Lsa) (l : Lsa) (x : Link) : Option Arc := if 0 < costL (refGet db x.t).ls l.o then some ⟨l.o, x.t, x.c⟩ else none
def refArcs (db : List Lsa) (l : Lsa) : List Arc := l.ls.filterMap (refArc db l)
def refAll (db : List Lsa) : List Arc := db.flatMap (refArcs db)

/- waymarklaw09.Light -/
set_option maxRecDepth 100000 in
set_option maxHeartbeats 400000 in
theorem law09_Light (l : Lsa) : Triple Try.prog 229 [AV.agg (lsaC l)] [] (fun r h' => r = .v (.bool (decide (l.ls.length ≤ 40))) ∧ h' = []) := by
  refine triple_of Try.func229 rfl (by kernel_rfl) rfl (by simp) ?_
  refine aSeq ?_
  refine aReg ?_
  refine sq ?_
  refine qBox rfl rfl (by decide) rfl rfl (fun b1 => ?_)
  refine sp pMa ?_
  refine oNil ?_
  refine aSeq ?_
  refine aReg ?_
  refine sp (pFb fd_141_2) ?_
  refine sr (rB1 ty_139) ?_
  refine sp (by first | exact pLm sl_139 | exact pLs sl_139 | exact pLv sl_139) ?_
  refine sp pB ?_
  refine sp pMa ?_
  refine oNil ?_
  refine aRet ?_
  refine ⟨_, [], _, rfl, .nil, ?_, rfl⟩
  simp [retOf]
  omega

/- waymarklaw19.Light -/
set_option maxRecDepth 100000 in
set_option maxHeartbeats 400000 in
theorem law19_Light (db : List Lsa) : Triple Try.prog 136 [AV.sl 3 (db.map lsaC)] [] (fun r h' => r = .v (.bool (lightB db)) ∧ h' = []) := by
  refine triple_of Try.func136 rfl (by kernel_rfl) rfl (by simp) ?_
  refine aSeq ?_
  refine aReg ?_
  refine sp pMa ?_
  refine oNil ?_
  refine aSeq ?_
  refine aSeq ?_
  refine aReg ?_
  refine sp pMa ?_
  refine oNil ?_
  refine aBlock ?_
  refine aLoopI (α := Nat) (fun i => i ≤ db.length ∧ i ≤ 71 ∧ (db.take i).all (fun x => decide (x.ls.length ≤ 40)) = true) (fun i => ([(0, AV.sl 3 (db.map lsaC)), (3, .int i)], [])) (fun i => db.length - i) 0 ?_ ?_ ?_
  · skip
    exact ⟨by omega, by omega, by simp⟩
  · skip
    exact weak_sub ⟨rfl, gInt rfl (by simp), trivial⟩ .nil
  · rintro i ⟨hi, hj, hv⟩
    skip
    refine aSeq ?_
    refine aSeq ?_
    refine aReg ?_
    refine sp pM ?_
    refine sp pM ?_
    refine sp (by first | exact pLm sl_55 | exact pLs sl_55 | exact pLv sl_55) ?_
    refine sp pB ?_
    refine sp pM ?_
    refine oSplitDec 8 rfl (fun c8 => ?_) (fun c8 => ?_)
    · skip
      refine gp pM ?_
      refine gp pB ?_
      refine sp pK ?_
      refine oNil ?_
      refine aCondDec rfl (fun c11 => ?_) (fun c11 => ?_)
      · skip
        refine aSkip ?_
        refine aSeq ?_
        refine aBlock ?_
        refine aSeq ?_
        refine aReg ?_
        refine sp pM ?_
        refine sp pM ?_
        obtain ⟨a, ha⟩ : ∃ a, db[i]? = some a := ⟨_, List.getElem?_eq_getElem (by omega)⟩
        refine sp (pIdxS rfl rfl rfl es_55 (by omega) (map_get (f := lsaC) ha)) ?_
        refine sr (by first | exact rSW ty_141 rfl | exact rSA ty_141 | exact rBWa ty_141 | exact rBW ty_141 | exact rBA ty_141 | exact rArA ty_141 (fun _ => rfl)) ?_
        refine sq ?_
        refine qCallV rfl rfl (by decide) rfl rfl (lents_refl _) (law09_Light _) ?_
        refine sp pNo ?_
        refine oNil ?_
        refine aCondNot rfl (fun c19 => ?_) (fun c19 => ?_)
        · skip
          refine aSeq ?_
          refine aReg ?_
          refine sp pMa ?_
          refine oNil ?_
          refine aRet ?_
          refine ⟨_, [], _, rfl, .nil, ?_, rfl⟩
          show AV.v (.bool false) = _
          have hn := all_not (p := fun x : Lsa => decide (x.ls.length ≤ 40)) ha (by simp_all)
          simp [lightB, hn]
        · skip
          refine aSkip ?_
          refine aReg ?_
          refine sp pM ?_
          refine sp pAd ?_
          refine sp pMa ?_
          refine oNil ?_
          refine ⟨i + 1, ⟨by omega, by omega, ?_⟩, by show db.length - (i + 1) < db.length - i; omega, weak_sub ⟨rfl, gInt rfl (by simp), trivial⟩ .nil⟩
          rw [all_take ha, hv]
          simp_all
      · skip
        refine aExit rfl ?_
        refine aSeq ?_
        refine aReg ?_
        refine sp pM ?_
        refine sp (by first | exact pLm sl_55 | exact pLs sl_55 | exact pLv sl_55) ?_
        refine sp pB ?_
        refine sp pMa ?_
        refine oNil ?_
        refine aRet ?_
        refine ⟨_, [], _, rfl, .nil, ?_, rfl⟩
        show AV.v (.bool _) = _
        by_cases hl : db.length ≤ 70
        · rw [show i = db.length by omega, List.take_length] at hv
          simp [lightB, hl, hv]
          omega
        · simp [lightB, hl]
          omega
    · skip
      refine gf ?_
      refine gf ?_
      refine sp pK ?_
      refine oNil ?_
      refine aCondF rfl ?_
      refine aExit rfl ?_
      refine aSeq ?_
      refine aReg ?_
      refine sp pM ?_
      refine sp (by first | exact pLm sl_55 | exact pLs sl_55 | exact pLv sl_55) ?_
      refine sp pB ?_
      refine sp pMa ?_
      refine oNil ?_
      refine aRet ?_
      refine ⟨_, [], _, rfl, .nil, ?_, rfl⟩
      show AV.v (.bool _) = _
      by_cases hl : db.length ≤ 70
      · rw [show i = db.length by omega, List.take_length] at hv
        simp [lightB, hl, hv]
        omega
      · simp [lightB, hl]
        omega

/- waymarkref09.May -/
def ref09_May_r5_T : Bool × List (List Nat × List Nat) := (true, [([], []), ([0], [0]), ([1], [1]), ([2], [2]), ([3], [3]), ([4, 3], [3, 4]), ([5, 3], [3, 5]), ([3, 6], [3, 6]), ([7, 3], [7]), ([8], [8]), ([9, 8], [8, 9]), ([8], [8]), ([11, 8], [8, 11]), ([10, 12, 8], [8, 10, 12]), ([8, 13], [8, 13]), ([14, 8], [14]), ([15], [15]), ([16, 15], [15, 16]), ([17, 15], [15, 17]), ([15, 18], [15, 18]), ([19, 15], [19]), ([20], [20]), ([21, 20], [20, 21]), ([22, 20], [20, 22]), ([20, 23], [20, 23]), ([24, 20], [24]), ([25], [25]), ([26, 25], [25, 26]), ([27, 25, 25], [25, 27]), ([28], [28]), ([29, 28], [28, 29]), ([28], [28]), ([31, 28], [28, 31]), ([30, 32, 28], [28, 30, 32]), ([33, 28], [28, 33]), ([34, 28], [28, 34]), ([28], [28]), ([36, 28], [28, 36]), ([35, 37, 28], [28, 35, 37]), ([28, 38, 25], [25, 28, 38]), ([25, 39], [25, 39])])
def ref09_May_r5_B : List Nat := [0, 1, 3, 7, 15, 31, 63, 127, 255, 511, 1023, 511, 2559, 8191, 16383, 32767, 65535, 131071, 262143, 524287, 1048575, 2097151, 4194303, 8388607, 16777215, 33554431, 67108863, 134217727, 268435455, 536870911, 1073741823, 536870911, 2684354559, 8589934591, 17179869183, 34359738367, 536870911, 69256347647, 274877906943, 549755813887, 1099511627775]
theorem ref09_May_r5_t : Go.Proofs.YtmcannmjielalaaW.PrintLast.rtab .any (Go.Proofs.YtmcannmjielalaaW.PrintLast.opsOf Try.f140 5) = ref09_May_r5_T := by kernel_rfl
theorem ref09_May_r5_b : Go.Proofs.YtmcannmjielalaaW.PrintLast.waitsOk ref09_May_r5_T.2 ref09_May_r5_B = true := by kernel_rfl
set_option maxRecDepth 100000 in
set_option maxHeartbeats 4000000 in
theorem ref09_May (l : Lsa) (hl : l.ls.length ≤ 4000) : Triple Try.prog 140 [AV.agg (lsaC l)] [] (fun r h' => r = .v (.bool (lsaB l)) ∧ h' = []) := by
  refine triple_of Try.func140 rfl (by kernel_rfl) rfl (by simp) ?_
  refine aSeq ?_
  refine aReg ?_
  refine sq ?_
  refine qBox rfl rfl (by decide) rfl rfl (fun b1 => ?_)
  refine sp pMa ?_
  refine oNil ?_
  refine aSeq ?_
  refine aSeq ?_
  refine aReg ?_
  refine sp pMa ?_
  refine oNil ?_
  refine aBlock ?_
  refine aLoopI (α := Nat) (fun i => i ≤ l.ls.length ∧ linksB l.o 0 l.ls = linksB l.o (prevT l.ls i) (l.ls.drop i)) (fun i => ([(1, .v (.pointer (some ⟨b1, 0, none⟩))), (3, .int i)], [.box b1 (lsaC l)])) (fun i => l.ls.length - i) 0 ?_ ?_ ?_
  · skip
    exact ⟨by omega, rfl⟩
  · skip
    exact weak_sub ⟨rfl, gInt rfl (by simp), trivial⟩ (by repeat constructor)
  · rintro i ⟨hi, hv⟩
    skip
    refine aSeq ?_
    refine aSeq ?_
    refine aReg ?_
    refine sp pM ?_
    refine sp (by first | exact pFb fd_141_2 | exact pFs fd_141_2) ?_
    refine sr (by first | exact rS1 ty_139 | exact rB1 ty_139 | exact rAr ty_139 | exact rArL ty_139 | exact rArR2 ty_139) ?_
    refine sp (by first | exact pLm sl_139 | exact pLs sl_139 | exact pLv sl_139) ?_
    refine sp pB ?_
    refine oNil ?_
    refine aCondDec rfl (fun c9 => ?_) (fun c9 => ?_)
    · skip
      refine aSkip ?_
      refine aSeq ?_
      refine aBlock ?_
      refine aSeq ?_
      refine aReg ?_
      refine sp (by first | exact pFb fd_141_2 | exact pFs fd_141_2) ?_
      refine sr (by first | exact rS1 ty_139 | exact rB1 ty_139 | exact rAr ty_139 | exact rArL ty_139 | exact rArR2 ty_139) ?_
      refine sp pM ?_
      obtain ⟨a, ha⟩ : ∃ a, l.ls[i]? = some a := ⟨_, List.getElem?_eq_getElem (by omega)⟩
      refine sp (pIdxS rfl rfl rfl es_139 (by omega) (map_get (f := linkC) ha)) ?_
      refine sr (by first | exact rSW ty_138 rfl | exact rSA ty_138 | exact rBWa ty_138 | exact rBW ty_138 | exact rBA ty_138 | exact rArA ty_138 (fun _ => rfl)) ?_
      refine sq ?_
      refine qAlloc rfl rfl (by decide) ze_138 rfl (fun b4 => ?_)
      refine sa ?_
      refine oStW rfl rfl rfl rfl (by repeat constructor) ty_138 ?_
      refine oNil ?_
      refine aSeq ?_
      refine aDrawT ref09_May_r5_t ref09_May_r5_b [] 41 #[false, false, false, false, false, false, false, false, false, false, false, false, false, false, false, false, false, false, false, false, false, false, false, false, false, false, false, false, false, false, false, false, false, false, false, false, false, false, false, false, false] (by kernel_rfl) rfl rfl (fun HT => ?_)
      refine dp HT 0 rfl (pFb fd_138_0) ?_
      refine dr HT 1 rfl (rB1 ty_3) ?_
      refine dp HT 2 rfl pB ?_
      refine dp HT 3 rfl pM ?_
      refine dSplitDec 20 rfl (fun c20 => ?_) (fun c20 => ?_)
      · skip
        refine dS HT 4 rfl ?_
        refine dS HT 5 rfl ?_
        refine dS HT 6 rfl ?_
        refine dp HT 7 rfl pK ?_
        refine dp HT 8 rfl pM ?_
        refine dS HT 9 rfl ?_
        refine dS HT 10 rfl ?_
        refine dS HT 11 rfl ?_
        refine dS HT 12 rfl ?_
        refine dS HT 13 rfl ?_
        refine dp HT 14 rfl pK ?_
        refine dp HT 15 rfl pM ?_
        refine dS HT 16 rfl ?_
        refine dS HT 17 rfl ?_
        refine dS HT 18 rfl ?_
        refine dp HT 19 rfl pK ?_
        refine dp HT 20 rfl pM ?_
        refine dS HT 21 rfl ?_
        refine dS HT 22 rfl ?_
        refine dS HT 23 rfl ?_
        refine dp HT 24 rfl pK ?_
        refine dp HT 25 rfl pM ?_
        refine dS HT 26 rfl ?_
        refine dS HT 27 rfl ?_
        refine dS HT 28 rfl ?_
        refine dS HT 29 rfl ?_
        refine dS HT 30 rfl ?_
        refine dS HT 31 rfl ?_
        refine dS HT 32 rfl ?_
        refine dS HT 33 rfl ?_
        refine dS HT 34 rfl ?_
        refine dS HT 35 rfl ?_
        refine dS HT 36 rfl ?_
        refine dS HT 37 rfl ?_
        refine dS HT 38 rfl ?_
        refine dS HT 39 rfl ?_
        refine dp HT 40 rfl pK ?_
        refine dE HT ?_
        clear HT
        refine aCondT rfl ?_
        refine aSeq ?_
        refine aReg ?_
        refine sp pMa ?_
        refine oNil ?_
        refine aRet ?_
        refine ⟨_, [], _, rfl, .nil, ?_, rfl⟩
        show AV.v (.bool false) = _
        have hs := links_step (o := l.o) (last := prevT l.ls i) ha
        have hn : linksB l.o 0 l.ls = false := by
          rw [hv, hs]
          first | (have hq : ¬ b.t < a.t := by omega
                   rw [prevT_eq (by omega) hb]
                   simp [hq]; done) | (simp_all [nodeB]; done) | (simp [nodeB]; omega)
        simp [lsaB, hn]
      · skip
        refine dpG HT 4 rfl (pFb fd_138_0) ?_
        refine drG HT 5 rfl (rB1 ty_3) ?_
        refine dpG HT 6 rfl pB ?_
        refine dp HT 7 rfl pK ?_
        refine dp HT 8 rfl pM ?_
        refine dSplitDec 25 rfl (fun c25 => ?_) (fun c25 => ?_)
        · skip
          refine dS HT 9 rfl ?_
          refine dS HT 10 rfl ?_
          refine dS HT 11 rfl ?_
          refine dS HT 12 rfl ?_
          refine dS HT 13 rfl ?_
          refine dp HT 14 rfl pK ?_
          refine dp HT 15 rfl pM ?_
          refine dS HT 16 rfl ?_
          refine dS HT 17 rfl ?_
          refine dS HT 18 rfl ?_
          refine dp HT 19 rfl pK ?_
          refine dp HT 20 rfl pM ?_
          refine dS HT 21 rfl ?_
          refine dS HT 22 rfl ?_
          refine dS HT 23 rfl ?_
          refine dp HT 24 rfl pK ?_
          refine dp HT 25 rfl pM ?_
          refine dS HT 26 rfl ?_
          refine dS HT 27 rfl ?_
          refine dS HT 28 rfl ?_
          refine dS HT 29 rfl ?_
          refine dS HT 30 rfl ?_
          refine dS HT 31 rfl ?_
          refine dS HT 32 rfl ?_
          refine dS HT 33 rfl ?_
          refine dS HT 34 rfl ?_
          refine dS HT 35 rfl ?_
          refine dS HT 36 rfl ?_
          refine dS HT 37 rfl ?_
          refine dS HT 38 rfl ?_
          refine dS HT 39 rfl ?_
          refine dp HT 40 rfl pK ?_
          refine dE HT ?_
          clear HT
          refine aCondT rfl ?_
          refine aSeq ?_
          refine aReg ?_
          refine sp pMa ?_
          refine oNil ?_
          refine aRet ?_
          refine ⟨_, [], _, rfl, .nil, ?_, rfl⟩
          show AV.v (.bool false) = _
          have hs := links_step (o := l.o) (last := prevT l.ls i) ha
          have hn : linksB l.o 0 l.ls = false := by
            rw [hv, hs]
            first | (have hq : ¬ b.t < a.t := by omega
                     rw [prevT_eq (by omega) hb]
                     simp [hq]; done) | (simp_all [nodeB]; done) | (simp [nodeB]; omega)
          simp [lsaB, hn]
        · skip
          refine dpG HT 9 rfl (pFb fd_138_0) ?_
          refine drG HT 10 rfl (rB1 ty_3) ?_
          refine dpG HT 11 rfl (by first | exact pFb fd_141_0 | exact pFs fd_141_0) ?_
          refine drG HT 12 rfl (by first | exact rS1 ty_3 | exact rB1 ty_3 | exact rAr ty_3 | exact rArL ty_3 | exact rArR2 ty_3) ?_
          refine dpG HT 13 rfl pB ?_
          refine dp HT 14 rfl pK ?_
          refine dp HT 15 rfl pM ?_
          refine dSplitEq 32 rfl (fun c32 => ?_) (fun c32 => ?_)
          · skip
            refine dS HT 16 rfl ?_
            refine dS HT 17 rfl ?_
            refine dS HT 18 rfl ?_
            refine dp HT 19 rfl pK ?_
            refine dp HT 20 rfl pM ?_
            refine dS HT 21 rfl ?_
            refine dS HT 22 rfl ?_
            refine dS HT 23 rfl ?_
            refine dp HT 24 rfl pK ?_
            refine dp HT 25 rfl pM ?_
            refine dS HT 26 rfl ?_
            refine dS HT 27 rfl ?_
            refine dS HT 28 rfl ?_
            refine dS HT 29 rfl ?_
            refine dS HT 30 rfl ?_
            refine dS HT 31 rfl ?_
            refine dS HT 32 rfl ?_
            refine dS HT 33 rfl ?_
            refine dS HT 34 rfl ?_
            refine dS HT 35 rfl ?_
            refine dS HT 36 rfl ?_
            refine dS HT 37 rfl ?_
            refine dS HT 38 rfl ?_
            refine dS HT 39 rfl ?_
            refine dp HT 40 rfl pK ?_
            refine dE HT ?_
            clear HT
            refine aCondT rfl ?_
            refine aSeq ?_
            refine aReg ?_
            refine sp pMa ?_
            refine oNil ?_
            refine aRet ?_
            refine ⟨_, [], _, rfl, .nil, ?_, rfl⟩
            show AV.v (.bool false) = _
            have hs := links_step (o := l.o) (last := prevT l.ls i) ha
            have hn : linksB l.o 0 l.ls = false := by
              rw [hv, hs]
              first | (have hq : ¬ b.t < a.t := by omega
                       rw [prevT_eq (by omega) hb]
                       simp [hq]; done) | (simp_all [nodeB]; done) | (simp [nodeB]; omega)
            simp [lsaB, hn]
          · skip
            refine dpG HT 16 rfl (pFb fd_138_1) ?_
            refine drG HT 17 rfl (rB1 ty_3) ?_
            refine dpG HT 18 rfl pB ?_
            refine dp HT 19 rfl pK ?_
            refine dp HT 20 rfl pM ?_
            refine dSplitDec 37 rfl (fun c37 => ?_) (fun c37 => ?_)
            · skip
              refine dS HT 21 rfl ?_
              refine dS HT 22 rfl ?_
              refine dS HT 23 rfl ?_
              refine dp HT 24 rfl pK ?_
              refine dp HT 25 rfl pM ?_
              refine dS HT 26 rfl ?_
              refine dS HT 27 rfl ?_
              refine dS HT 28 rfl ?_
              refine dS HT 29 rfl ?_
              refine dS HT 30 rfl ?_
              refine dS HT 31 rfl ?_
              refine dS HT 32 rfl ?_
              refine dS HT 33 rfl ?_
              refine dS HT 34 rfl ?_
              refine dS HT 35 rfl ?_
              refine dS HT 36 rfl ?_
              refine dS HT 37 rfl ?_
              refine dS HT 38 rfl ?_
              refine dS HT 39 rfl ?_
              refine dp HT 40 rfl pK ?_
              refine dE HT ?_
              clear HT
              refine aCondT rfl ?_
              refine aSeq ?_
              refine aReg ?_
              refine sp pMa ?_
              refine oNil ?_
              refine aRet ?_
              refine ⟨_, [], _, rfl, .nil, ?_, rfl⟩
              show AV.v (.bool false) = _
              have hs := links_step (o := l.o) (last := prevT l.ls i) ha
              have hn : linksB l.o 0 l.ls = false := by
                rw [hv, hs]
                first | (have hq : ¬ b.t < a.t := by omega
                         rw [prevT_eq (by omega) hb]
                         simp [hq]; done) | (simp_all [nodeB]; done) | (simp [nodeB]; omega)
              simp [lsaB, hn]
            · skip
              refine dpG HT 21 rfl (pFb fd_138_1) ?_
              refine drG HT 22 rfl (rB1 ty_3) ?_
              refine dpG HT 23 rfl pB ?_
              refine dp HT 24 rfl pK ?_
              refine dp HT 25 rfl pM ?_
              refine dSplitDec 42 rfl (fun c42 => ?_) (fun c42 => ?_)
              · skip
                refine dS HT 26 rfl ?_
                refine dS HT 27 rfl ?_
                refine dS HT 28 rfl ?_
                refine dS HT 29 rfl ?_
                refine dS HT 30 rfl ?_
                refine dS HT 31 rfl ?_
                refine dS HT 32 rfl ?_
                refine dS HT 33 rfl ?_
                refine dS HT 34 rfl ?_
                refine dS HT 35 rfl ?_
                refine dS HT 36 rfl ?_
                refine dS HT 37 rfl ?_
                refine dS HT 38 rfl ?_
                refine dS HT 39 rfl ?_
                refine dp HT 40 rfl pK ?_
                refine dE HT ?_
                clear HT
                refine aCondT rfl ?_
                refine aSeq ?_
                refine aReg ?_
                refine sp pMa ?_
                refine oNil ?_
                refine aRet ?_
                refine ⟨_, [], _, rfl, .nil, ?_, rfl⟩
                show AV.v (.bool false) = _
                have hs := links_step (o := l.o) (last := prevT l.ls i) ha
                have hn : linksB l.o 0 l.ls = false := by
                  rw [hv, hs]
                  first | (have hq : ¬ b.t < a.t := by omega
                           rw [prevT_eq (by omega) hb]
                           simp [hq]; done) | (simp_all [nodeB]; done) | (simp [nodeB]; omega)
                simp [lsaB, hn]
              · skip
                refine dpG HT 26 rfl pM ?_
                refine dpG HT 27 rfl pB ?_
                refine dpG HT 28 rfl pM ?_
                refine dSplitDec 45 rfl (fun c45 => ?_) (fun c45 => ?_)
                · skip
                  refine dpG HT 29 rfl (by first | exact pFb fd_141_2 | exact pFs fd_141_2) ?_
                  refine drG HT 30 rfl (by first | exact rS1 ty_139 | exact rB1 ty_139 | exact rAr ty_139 | exact rArL ty_139 | exact rArR2 ty_139) ?_
                  refine dpG HT 31 rfl pM ?_
                  refine dpG HT 32 rfl pSu ?_
                  obtain ⟨b, hb⟩ : ∃ b, l.ls[i - 1]? = some b := ⟨_, List.getElem?_eq_getElem (by omega)⟩
                  refine dpG HT 33 rfl (pIdxS rfl rfl rfl es_139 (by omega) (by rw [show ((i : Int) - 1).toNat = i - 1 by omega]; exact map_get (f := linkC) hb)) ?_
                  refine dpG HT 34 rfl (by first | exact pFb fd_138_0 | exact pFs fd_138_0) ?_
                  refine drG HT 35 rfl (by first | exact rS1 ty_3 | exact rB1 ty_3 | exact rAr ty_3 | exact rArL ty_3 | exact rArR2 ty_3) ?_
                  refine dpG HT 36 rfl (pFb fd_138_0) ?_
                  refine drG HT 37 rfl (rB1 ty_3) ?_
                  refine dpG HT 38 rfl pB ?_
                  refine dpG HT 39 rfl pK ?_
                  refine dp HT 40 rfl pK ?_
                  refine dE HT ?_
                  clear HT
                  refine aCondDec rfl (fun c57 => ?_) (fun c57 => ?_)
                  · skip
                    refine aSeq ?_
                    refine aReg ?_
                    refine sp pMa ?_
                    refine oNil ?_
                    refine aRet ?_
                    refine ⟨_, [], _, rfl, .nil, ?_, rfl⟩
                    show AV.v (.bool false) = _
                    have hs := links_step (o := l.o) (last := prevT l.ls i) ha
                    have hn : linksB l.o 0 l.ls = false := by
                      rw [hv, hs]
                      first | (have hq : ¬ b.t < a.t := by omega
                               rw [prevT_eq (by omega) hb]
                               simp [hq]; done) | (simp_all [nodeB]; done) | (simp [nodeB]; omega)
                    simp [lsaB, hn]
                  · skip
                    refine aSkip ?_
                    refine aReg ?_
                    refine sp pM ?_
                    refine sp pAd ?_
                    refine sp pMa ?_
                    refine oNil ?_
                    have hs := links_step (o := l.o) (last := prevT l.ls i) ha
                    refine ⟨i + 1, ⟨by omega, ?_⟩, by show l.ls.length - (i + 1) < l.ls.length - i; omega, weak_sub ⟨rfl, gInt rfl (by simp), trivial⟩ (by repeat constructor)⟩
                    rw [hv, hs, prevT_succ ha]
                    have hq : prevT l.ls i < a.t := by
                      by_cases h0 : i = 0
                      · rw [prevT_zero h0]; omega
                      · first | (rw [prevT_eq (by omega) hb]; omega) | omega
                    simp_all [nodeB]
                    all_goals first | (intros; omega) | skip
                · skip
                  refine dS HT 29 rfl ?_
                  refine dS HT 30 rfl ?_
                  refine dS HT 31 rfl ?_
                  refine dS HT 32 rfl ?_
                  refine dS HT 33 rfl ?_
                  refine dS HT 34 rfl ?_
                  refine dS HT 35 rfl ?_
                  refine dS HT 36 rfl ?_
                  refine dS HT 37 rfl ?_
                  refine dS HT 38 rfl ?_
                  refine dpG HT 39 rfl pK ?_
                  refine dp HT 40 rfl pK ?_
                  refine dE HT ?_
                  clear HT
                  refine aCondF rfl ?_
                  refine aSkip ?_
                  refine aReg ?_
                  refine sp pM ?_
                  refine sp pAd ?_
                  refine sp pMa ?_
                  refine oNil ?_
                  have hs := links_step (o := l.o) (last := prevT l.ls i) ha
                  refine ⟨i + 1, ⟨by omega, ?_⟩, by show l.ls.length - (i + 1) < l.ls.length - i; omega, weak_sub ⟨rfl, gInt rfl (by simp), trivial⟩ (by repeat constructor)⟩
                  rw [hv, hs, prevT_succ ha]
                  have hq : prevT l.ls i < a.t := by
                    by_cases h0 : i = 0
                    · rw [prevT_zero h0]; omega
                    · first | (rw [prevT_eq (by omega) hb]; omega) | omega
                  simp_all [nodeB]
                  all_goals first | (intros; omega) | skip
    · skip
      refine aExit rfl ?_
      refine aSeq ?_
      refine aReg ?_
      refine sp (by first | exact pFb fd_141_0 | exact pFs fd_141_0) ?_
      refine sr (by first | exact rS1 ty_3 | exact rB1 ty_3 | exact rAr ty_3 | exact rArL ty_3 | exact rArR2 ty_3) ?_
      refine sp pB ?_
      refine sp pM ?_
      refine oSplitDec 61 rfl (fun c61 => ?_) (fun c61 => ?_)
      · skip
        refine gp (by first | exact pFb fd_141_0 | exact pFs fd_141_0) ?_
        refine gr (by first | exact rS1 ty_3 | exact rB1 ty_3 | exact rAr ty_3 | exact rArL ty_3 | exact rArR2 ty_3) ?_
        refine gp pB ?_
        refine sp pK ?_
        refine sp pM ?_
        refine oSplitDec 66 rfl (fun c66 => ?_) (fun c66 => ?_)
        · skip
          refine gp (by first | exact pFb fd_141_1 | exact pFs fd_141_1) ?_
          refine gr (by first | exact rS1 ty_3 | exact rB1 ty_3 | exact rAr ty_3 | exact rArL ty_3 | exact rArR2 ty_3) ?_
          refine gp pB ?_
          refine sp pK ?_
          refine sp pM ?_
          refine oSplitDec 71 rfl (fun c71 => ?_) (fun c71 => ?_)
          · skip
            refine gp (by first | exact pFb fd_141_1 | exact pFs fd_141_1) ?_
            refine gr (by first | exact rS1 ty_3 | exact rB1 ty_3 | exact rAr ty_3 | exact rArL ty_3 | exact rArR2 ty_3) ?_
            refine gp pB ?_
            refine sp pK ?_
            refine sp pM ?_
            refine oSplitDec 76 rfl (fun c76 => ?_) (fun c76 => ?_)
            · skip
              refine gp (by first | exact pFb fd_141_2 | exact pFs fd_141_2) ?_
              refine gr (by first | exact rS1 ty_139 | exact rB1 ty_139 | exact rAr ty_139 | exact rArL ty_139 | exact rArR2 ty_139) ?_
              refine gp (by first | exact pLm sl_139 | exact pLs sl_139 | exact pLv sl_139) ?_
              refine gp pB ?_
              refine sp pK ?_
              refine sp pMa ?_
              refine oNil ?_
              refine aRet ?_
              refine ⟨_, [], _, rfl, .nil, ?_, rfl⟩
              rw [List.drop_of_length_le (by omega)] at hv
              simp_all [retOf, lsaB, linksB, nodeB]
              all_goals first | omega | (intros; omega) | skip
            · skip
              refine gf ?_
              refine gf ?_
              refine gf ?_
              refine gf ?_
              refine sp pK ?_
              refine sp pMa ?_
              refine oNil ?_
              refine aRet ?_
              refine ⟨_, [], _, rfl, .nil, ?_, rfl⟩
              rw [List.drop_of_length_le (by omega)] at hv
              simp_all [retOf, lsaB, linksB, nodeB]
              all_goals first | omega | (intros; omega) | skip
          · skip
            refine gf ?_
            refine gf ?_
            refine gf ?_
            refine sp pK ?_
            refine sp pM ?_
            refine gf ?_
            refine gf ?_
            refine gf ?_
            refine gf ?_
            refine sp pK ?_
            refine sp pMa ?_
            refine oNil ?_
            refine aRet ?_
            refine ⟨_, [], _, rfl, .nil, ?_, rfl⟩
            rw [List.drop_of_length_le (by omega)] at hv
            simp_all [retOf, lsaB, linksB, nodeB]
            all_goals first | omega | (intros; omega) | skip
        · skip
          refine gf ?_
          refine gf ?_
          refine gf ?_
          refine sp pK ?_
          refine sp pM ?_
          refine gf ?_
          refine gf ?_
          refine gf ?_
          refine sp pK ?_
          refine sp pM ?_
          refine gf ?_
          refine gf ?_
          refine gf ?_
          refine gf ?_
          refine sp pK ?_
          refine sp pMa ?_
          refine oNil ?_
          refine aRet ?_
          refine ⟨_, [], _, rfl, .nil, ?_, rfl⟩
          rw [List.drop_of_length_le (by omega)] at hv
          simp_all [retOf, lsaB, linksB, nodeB]
          all_goals first | omega | (intros; omega) | skip
      · skip
        refine gf ?_
        refine gf ?_
        refine gf ?_
        refine sp pK ?_
        refine sp pM ?_
        refine gf ?_
        refine gf ?_
        refine gf ?_
        refine sp pK ?_
        refine sp pM ?_
        refine gf ?_
        refine gf ?_
        refine gf ?_
        refine sp pK ?_
        refine sp pM ?_
        refine gf ?_
        refine gf ?_
        refine gf ?_
        refine gf ?_
        refine sp pK ?_
        refine sp pMa ?_
        refine oNil ?_
        refine aRet ?_
        refine ⟨_, [], _, rfl, .nil, ?_, rfl⟩
        rw [List.drop_of_length_le (by omega)] at hv
        simp_all [retOf, lsaB, linksB, nodeB]
        all_goals first | omega | (intros; omega) | skip

/- waymarkref19.May -/
def ref19_May_r4_T : Bool × List (List Nat × List Nat) := (true, [([], []), ([], []), ([0, 1], [0, 1]), ([2], [2]), ([3], [3]), ([4], [4]), ([5, 4], [5]), ([6], [6]), ([7, 6], [6, 7]), ([8, 6, 6], [6, 8]), ([9], [9]), ([9], [9]), ([11, 9], [9, 11]), ([10, 12, 9], [9, 10, 12]), ([13, 9], [9, 13]), ([14, 9], [9, 14]), ([9], [9]), ([9], [9]), ([16, 17, 9], [9, 16, 17]), ([18, 9], [9, 18]), ([19, 9], [9, 19]), ([15, 20, 9], [9, 15, 20]), ([9, 21, 6], [6, 9, 21]), ([6, 22], [6, 22])])
def ref19_May_r4_B : List Nat := [0, 0, 3, 7, 15, 31, 63, 127, 255, 511, 1023, 1023, 3071, 8191, 16383, 32767, 1023, 1023, 197631, 459775, 984063, 2097151, 4194303, 8388607]
theorem ref19_May_r4_t : Go.Proofs.YtmcannmjielalaaW.PrintLast.rtab .any (Go.Proofs.YtmcannmjielalaaW.PrintLast.opsOf Try.f55 4) = ref19_May_r4_T := by kernel_rfl
theorem ref19_May_r4_b : Go.Proofs.YtmcannmjielalaaW.PrintLast.waitsOk ref19_May_r4_T.2 ref19_May_r4_B = true := by kernel_rfl
set_option maxRecDepth 100000 in
set_option maxHeartbeats 2000000 in
theorem ref19_May (db : List Lsa) (hl : db.length ≤ 4000) (hm : ∀ x ∈ db, x.ls.length ≤ 4000) : Triple Try.prog 55 [AV.sl 3 (db.map lsaC)] [] (fun r h' => r = .v (.bool (lsdbB 0 db)) ∧ h' = []) := by
  refine triple_of Try.func55 rfl (by kernel_rfl) rfl (by simp) ?_
  refine aSeq ?_
  refine aReg ?_
  refine sp pMa ?_
  refine oNil ?_
  refine aSeq ?_
  refine aSeq ?_
  refine aReg ?_
  refine sp pMa ?_
  refine oNil ?_
  refine aBlock ?_
  refine aLoopI (α := Nat) (fun i => i ≤ db.length ∧ lsdbB 0 db = lsdbB (prevO db i) (db.drop i)) (fun i => ([(0, AV.sl 3 (db.map lsaC)), (3, .int i)], [])) (fun i => db.length - i) 0 ?_ ?_ ?_
  · skip
    exact ⟨by omega, rfl⟩
  · skip
    exact weak_sub ⟨rfl, gInt rfl (by simp), trivial⟩ .nil
  · rintro i ⟨hi, hv⟩
    skip
    refine aSeq ?_
    refine aSeq ?_
    refine aReg ?_
    refine sp pM ?_
    refine sp pM ?_
    refine sp (by first | exact pLm sl_55 | exact pLs sl_55 | exact pLv sl_55) ?_
    refine sp pB ?_
    refine oNil ?_
    refine aCondDec rfl (fun c7 => ?_) (fun c7 => ?_)
    · skip
      refine aSkip ?_
      refine aSeq ?_
      refine aBlock ?_
      refine aSeq ?_
      refine aDrawT ref19_May_r4_t ref19_May_r4_b [] 24 #[false, false, false, false, false, false, false, false, false, false, false, false, false, false, false, false, false, false, false, false, false, false, false, false] (by kernel_rfl) rfl rfl (fun HT => ?_)
      refine dp HT 0 rfl pM ?_
      refine dp HT 1 rfl pM ?_
      obtain ⟨a, ha⟩ : ∃ a, db[i]? = some a := ⟨_, List.getElem?_eq_getElem (by omega)⟩
      refine dp HT 2 rfl (pIdxS rfl rfl rfl es_55 (by omega) (map_get (f := lsaC) ha)) ?_
      refine dr HT 3 rfl (by first | exact rSW ty_141 rfl | exact rSA ty_141 | exact rBWa ty_141 | exact rBW ty_141 | exact rBA ty_141 | exact rArA ty_141 (fun _ => rfl)) ?_
      refine dGo ?_
      refine e1 HT 4 rfl ?_
      refine qCallV rfl rfl (by decide) rfl rfl (lents_refl _) (ref09_May _ (hm _ (List.mem_of_getElem? ha))) ?_
      refine ef HT 5 rfl pNo ?_
      refine ef HT 6 rfl pM ?_
      refine eSplitNot 16 rfl (fun c16 => ?_) (fun c16 => ?_)
      · skip
        refine eS HT 7 rfl ?_
        refine eS HT 8 rfl ?_
        refine eS HT 9 rfl ?_
        refine eS HT 10 rfl ?_
        refine eS HT 11 rfl ?_
        refine eS HT 12 rfl ?_
        refine eS HT 13 rfl ?_
        refine eS HT 14 rfl ?_
        refine eS HT 15 rfl ?_
        refine eS HT 16 rfl ?_
        refine eS HT 17 rfl ?_
        refine eS HT 18 rfl ?_
        refine eS HT 19 rfl ?_
        refine eS HT 20 rfl ?_
        refine eS HT 21 rfl ?_
        refine eS HT 22 rfl ?_
        refine ef HT 23 rfl pK ?_
        refine eE HT ?_
        clear HT
        refine aCondT rfl ?_
        refine aSeq ?_
        refine aReg ?_
        refine sp pMa ?_
        refine oNil ?_
        refine aRet ?_
        refine ⟨_, [], _, rfl, .nil, ?_, rfl⟩
        show AV.v (.bool false) = _
        have hs := lsdb_step (last := prevO db i) ha
        rw [hv, hs]
        first | (have hq : ¬ b.o < a.o := by omega
                 rw [prevO_eq (by omega) hb]
                 simp [hq]; done) | (simp_all; done)
      · skip
        refine epG HT 7 rfl pM ?_
        refine epG HT 8 rfl pB ?_
        refine epG HT 9 rfl pM ?_
        refine eSplitDec 19 rfl (fun c19 => ?_) (fun c19 => ?_)
        · skip
          refine epG HT 10 rfl pM ?_
          refine epG HT 11 rfl pM ?_
          refine epG HT 12 rfl pSu ?_
          obtain ⟨b, hb⟩ : ∃ b, db[i - 1]? = some b := ⟨_, List.getElem?_eq_getElem (by omega)⟩
          refine epG HT 13 rfl (pIdxS rfl rfl rfl es_55 (by omega) (by rw [show ((i : Int) - 1).toNat = i - 1 by omega]; exact map_get (f := lsaC) hb)) ?_
          refine epG HT 14 rfl (by first | exact pFb fd_141_0 | exact pFs fd_141_0) ?_
          refine erG HT 15 rfl (by first | exact rS1 ty_3 | exact rB1 ty_3 | exact rAr ty_3 | exact rArL ty_3 | exact rArR2 ty_3) ?_
          refine epG HT 16 rfl pM ?_
          refine epG HT 17 rfl pM ?_
          refine epG HT 18 rfl (pIdxS rfl rfl rfl es_55 (by omega) (map_get (f := lsaC) ha)) ?_
          refine epG HT 19 rfl (by first | exact pFb fd_141_0 | exact pFs fd_141_0) ?_
          refine erG HT 20 rfl (by first | exact rS1 ty_3 | exact rB1 ty_3 | exact rAr ty_3 | exact rArL ty_3 | exact rArR2 ty_3) ?_
          refine epG HT 21 rfl pB ?_
          refine epG HT 22 rfl pK ?_
          refine ef HT 23 rfl pK ?_
          refine eE HT ?_
          clear HT
          refine aCondDec rfl (fun c33 => ?_) (fun c33 => ?_)
          · skip
            refine aSeq ?_
            refine aReg ?_
            refine sp pMa ?_
            refine oNil ?_
            refine aRet ?_
            refine ⟨_, [], _, rfl, .nil, ?_, rfl⟩
            show AV.v (.bool false) = _
            have hs := lsdb_step (last := prevO db i) ha
            rw [hv, hs]
            first | (have hq : ¬ b.o < a.o := by omega
                     rw [prevO_eq (by omega) hb]
                     simp [hq]; done) | (simp_all; done)
          · skip
            refine aSkip ?_
            refine aReg ?_
            refine sp pM ?_
            refine sp pAd ?_
            refine sp pMa ?_
            refine oNil ?_
            have hs := lsdb_step (last := prevO db i) ha
            refine ⟨i + 1, ⟨by omega, ?_⟩, by show db.length - (i + 1) < db.length - i; omega, weak_sub ⟨rfl, gInt rfl (by simp), trivial⟩ .nil⟩
            rw [hv, hs, prevO_succ ha]
            by_cases h0 : i = 0
            · rw [prevO_zero h0]
              have hq : 0 < a.o := by simp only [lsaB, nodeB, Bool.and_eq_true, decide_eq_true_eq] at c16; omega
              simp_all
            · first | (have hp := prevO_eq (by omega) hb; rw [hp]; simp_all; done) | omega
        · skip
          refine eS HT 10 rfl ?_
          refine eS HT 11 rfl ?_
          refine eS HT 12 rfl ?_
          refine eS HT 13 rfl ?_
          refine eS HT 14 rfl ?_
          refine eS HT 15 rfl ?_
          refine eS HT 16 rfl ?_
          refine eS HT 17 rfl ?_
          refine eS HT 18 rfl ?_
          refine eS HT 19 rfl ?_
          refine eS HT 20 rfl ?_
          refine eS HT 21 rfl ?_
          refine efG HT 22 rfl pK ?_
          refine ef HT 23 rfl pK ?_
          refine eE HT ?_
          clear HT
          refine aCondF rfl ?_
          refine aSkip ?_
          refine aReg ?_
          refine sp pM ?_
          refine sp pAd ?_
          refine sp pMa ?_
          refine oNil ?_
          have hs := lsdb_step (last := prevO db i) ha
          refine ⟨i + 1, ⟨by omega, ?_⟩, by show db.length - (i + 1) < db.length - i; omega, weak_sub ⟨rfl, gInt rfl (by simp), trivial⟩ .nil⟩
          rw [hv, hs, prevO_succ ha]
          by_cases h0 : i = 0
          · rw [prevO_zero h0]
            have hq : 0 < a.o := by simp only [lsaB, nodeB, Bool.and_eq_true, decide_eq_true_eq] at c16; omega
            simp_all
          · first | (have hp := prevO_eq (by omega) hb; rw [hp]; simp_all; done) | omega
    · skip
      refine aExit rfl ?_
      refine aSeq ?_
      refine aReg ?_
      refine sp pMa ?_
      refine oNil ?_
      refine aRet ?_
      refine ⟨_, [], _, rfl, .nil, ?_, rfl⟩
      show AV.v (.bool true) = _
      rw [hv, List.drop_of_length_le (by omega)]
      rfl

/- waymarkref24.Same -/
def ref24_Same_o_r6_T : Bool × List (List Nat × List Nat) := (true, [([], []), ([], []), ([0, 1], [0, 1]), ([2], [2]), ([], []), ([], []), ([4, 5], [4, 5]), ([6], [6]), ([3, 7], [3, 7])])
def ref24_Same_o_r6_B : List Nat := [0, 0, 3, 7, 0, 0, 48, 112, 255]
theorem ref24_Same_o_r6_t : Go.Proofs.YtmcannmjielalaaW.PrintLast.rtab .any (Go.Proofs.YtmcannmjielalaaW.PrintLast.opsOf Try.f32 6) = ref24_Same_o_r6_T := by kernel_rfl
theorem ref24_Same_o_r6_b : Go.Proofs.YtmcannmjielalaaW.PrintLast.waitsOk ref24_Same_o_r6_T.2 ref24_Same_o_r6_B = true := by kernel_rfl
set_option maxRecDepth 100000 in
set_option maxHeartbeats 400000 in
theorem ref24_Same_o (l m : List Arc) (hl : l.length ≤ 4000000) (hm : m.length ≤ 4000000) : Triple Try.prog 32 [AV.sl 3 (l.map arcC), AV.sl 3 (m.map arcC)] [] (fun r h' => r = .v (.bool (decide (l = m))) ∧ h' = []) := by
  refine triple_of Try.func32 rfl (by kernel_rfl) rfl (by simp) ?_
  refine aSeq ?_
  refine aReg ?_
  refine sp pMa ?_
  refine oNil ?_
  refine aSeq ?_
  refine aSeq ?_
  refine aReg ?_
  refine sp pM ?_
  refine sp (by first | exact pLm sl_22 | exact pLs sl_22) ?_
  refine sp pM ?_
  refine sp (by first | exact pLm sl_22 | exact pLs sl_22) ?_
  refine sp pB ?_
  refine oNil ?_
  refine aCondNe rfl (fun c10 => ?_) (fun c10 => ?_)
  · skip
    refine aSeq ?_
    refine aReg ?_
    refine sp pMa ?_
    refine oNil ?_
    refine aRet ?_
    refine ⟨_, [], _, rfl, .nil, ?_, rfl⟩
    show AV.v (.bool false) = _
    have hn : l ≠ m := fun e => by subst e; exact absurd c10 (by simp)
    simp [hn]
  · skip
    refine aSkip ?_
    refine aSeq ?_
    refine aSeq ?_
    have hlm : l.length = m.length := by omega
    refine aReg ?_
    refine sp pMa ?_
    refine oNil ?_
    refine aBlock ?_
    refine aLoopI (α := Nat) (fun i => i ≤ l.length ∧ l.take i = m.take i) (fun i => ([(0, AV.sl 3 (l.map arcC)), (1, AV.sl 3 (m.map arcC)), (5, .int i)], [])) (fun i => l.length - i) 0 ?_ ?_ ?_
    · skip
      exact ⟨by omega, rfl⟩
    · skip
      exact weak_sub ⟨rfl, rfl, gInt rfl (by simp), trivial⟩ .nil
    · rintro i ⟨hi, hv⟩
      skip
      refine aSeq ?_
      refine aSeq ?_
      refine aReg ?_
      refine sp pM ?_
      refine sp pM ?_
      refine sp (by first | exact pLm sl_22 | exact pLs sl_22 | exact pLv sl_22) ?_
      refine sp pB ?_
      refine oNil ?_
      refine aCondDec rfl (fun c14 => ?_) (fun c14 => ?_)
      · skip
        refine aSkip ?_
        refine aSeq ?_
        refine aBlock ?_
        refine aSeq ?_
        refine aDrawT ref24_Same_o_r6_t ref24_Same_o_r6_b [] 9 #[false, false, false, false, false, false, false, false, false] (by kernel_rfl) rfl rfl (fun HT => ?_)
        refine dp HT 0 rfl pM ?_
        refine dp HT 1 rfl pM ?_
        obtain ⟨a, ha⟩ : ∃ a, l[i]? = some a := ⟨_, List.getElem?_eq_getElem (by omega)⟩
        obtain ⟨b, hb⟩ : ∃ b, m[i]? = some b := ⟨_, List.getElem?_eq_getElem (by omega)⟩
        refine dp HT 2 rfl (pIdxS rfl rfl rfl es_22 (by omega) (map_get (f := arcC) ha)) ?_
        refine dr HT 3 rfl (by first | exact rSW ty_36 rfl | exact rSA ty_36 | exact rBWa ty_36 | exact rBW ty_36 | exact rBA ty_36 | exact rArA ty_36 (fun _ => rfl)) ?_
        refine dp HT 4 rfl pM ?_
        refine dp HT 5 rfl pM ?_
        refine dp HT 6 rfl (pIdxS rfl rfl rfl es_22 (by omega) (map_get (f := arcC) hb)) ?_
        refine dr HT 7 rfl (by first | exact rSW ty_36 rfl | exact rSA ty_36 | exact rBWa ty_36 | exact rBW ty_36 | exact rBA ty_36 | exact rArA ty_36 (fun _ => rfl)) ?_
        refine dp HT 8 rfl (pEqAn eq_36) ?_
        refine dE HT ?_
        clear HT
        refine aCond rfl (fun c25 => ?_) (fun c25 => ?_)
        · skip
          refine aSeq ?_
          refine aReg ?_
          refine sp pMa ?_
          refine oNil ?_
          refine aRet ?_
          refine ⟨_, [], _, rfl, .nil, ?_, rfl⟩
          show AV.v (.bool false) = _
          have hn : l ≠ m := fun e => by
            subst e
            rw [ha] at hb
            cases hb
            simp at c25
          simp [hn]
        · skip
          refine aSkip ?_
          refine aReg ?_
          refine sp pM ?_
          refine sp pAd ?_
          refine sp pMa ?_
          refine oNil ?_
          refine ⟨i + 1, ⟨by omega, ?_⟩, by show l.length - (i + 1) < l.length - i; omega, weak_sub ⟨rfl, rfl, gInt rfl (by simp), trivial⟩ .nil⟩
          rw [take_step ha, take_step hb, hv]
          obtain ⟨a1, a2, a3⟩ := a
          obtain ⟨b1, b2, b3⟩ := b
          simp_all
      · skip
        refine aExit rfl ?_
        refine aSeq ?_
        refine aReg ?_
        refine sp pMa ?_
        refine oNil ?_
        refine aRet ?_
        refine ⟨_, [], _, rfl, .nil, ?_, rfl⟩
        show AV.v (.bool true) = _
        rw [List.take_of_length_le (by omega), List.take_of_length_le (by omega)] at hv
        simp [hv]

/- waymarkref09.Cost -/
set_option maxRecDepth 100000 in
set_option maxHeartbeats 400000 in
theorem ref09_Cost (l : Lsa) (n : Int) (hl : l.ls.length ≤ 4000) : Triple Try.prog 141 [AV.agg (lsaC l), AV.int n] [] (fun r h' => r = .int (costL l.ls n) ∧ h' = []) := by
  refine triple_of Try.func141 rfl (by kernel_rfl) rfl (by simp) ?_
  refine aSeq ?_
  refine aReg ?_
  refine sq ?_
  refine qBox rfl rfl (by decide) rfl rfl (fun b2 => ?_)
  refine sp pMa ?_
  refine oNil ?_
  refine aSeq ?_
  refine aSeq ?_
  refine aReg ?_
  refine sp pMa ?_
  refine oNil ?_
  refine aBlock ?_
  refine aLoopI (α := Nat) (fun i => i ≤ l.ls.length ∧ costL l.ls n = costL (l.ls.drop i) n) (fun i => ([(1, .int n), (2, .v (.pointer (some ⟨b2, 0, none⟩))), (5, .int i)], [.box b2 (lsaC l)])) (fun i => l.ls.length - i) 0 ?_ ?_ ?_
  · skip
    exact ⟨by omega, rfl⟩
  · skip
    exact weak_sub ⟨rfl, rfl, gInt rfl (by simp), trivial⟩ (by repeat constructor)
  · rintro i ⟨hi, hv⟩
    skip
    refine aSeq ?_
    refine aSeq ?_
    refine aReg ?_
    refine sp pM ?_
    refine sp (by first | exact pFb fd_141_2 | exact pFs fd_141_2) ?_
    refine sr (by first | exact rS1 ty_139 | exact rB1 ty_139 | exact rAr ty_139 | exact rArL ty_139 | exact rArR2 ty_139) ?_
    refine sp (by first | exact pLm sl_139 | exact pLs sl_139 | exact pLv sl_139) ?_
    refine sp pB ?_
    refine oNil ?_
    refine aCondDec rfl (fun c10 => ?_) (fun c10 => ?_)
    · skip
      refine aSkip ?_
      refine aSeq ?_
      refine aBlock ?_
      refine aSeq ?_
      refine aReg ?_
      refine sp (by first | exact pFb fd_141_2 | exact pFs fd_141_2) ?_
      refine sr (by first | exact rS1 ty_139 | exact rB1 ty_139 | exact rAr ty_139 | exact rArL ty_139 | exact rArR2 ty_139) ?_
      refine sp pM ?_
      obtain ⟨a, ha⟩ : ∃ a, l.ls[i]? = some a := ⟨_, List.getElem?_eq_getElem (by omega)⟩
      refine sp (pIdxS rfl rfl rfl es_139 (by omega) (map_get (f := linkC) ha)) ?_
      refine sp (by first | exact pFb fd_138_0 | exact pFs fd_138_0) ?_
      refine sr (by first | exact rS1 ty_3 | exact rB1 ty_3 | exact rAr ty_3 | exact rArL ty_3 | exact rArR2 ty_3) ?_
      refine sp pM ?_
      refine sp pB ?_
      refine oNil ?_
      refine aCondEq rfl (fun c20 => ?_) (fun c20 => ?_)
      · skip
        refine aSeq ?_
        refine aReg ?_
        refine sp (by first | exact pFb fd_141_2 | exact pFs fd_141_2) ?_
        refine sr (by first | exact rS1 ty_139 | exact rB1 ty_139 | exact rAr ty_139 | exact rArL ty_139 | exact rArR2 ty_139) ?_
        refine sp pM ?_
        refine sp (pIdxS rfl rfl rfl es_139 (by omega) (map_get (f := linkC) ha)) ?_
        refine sp (by first | exact pFb fd_138_1 | exact pFs fd_138_1) ?_
        refine sr (by first | exact rS1 ty_3 | exact rB1 ty_3 | exact rAr ty_3 | exact rArL ty_3 | exact rArR2 ty_3) ?_
        refine sp pMa ?_
        refine oNil ?_
        refine aRet ?_
        refine ⟨_, [], _, rfl, .nil, ?_, rfl⟩
        show AV.int _ = AV.int _
        rw [hv, drop_step ha]
        simp [costL, c20]
      · skip
        refine aSkip ?_
        refine aReg ?_
        refine sp pM ?_
        refine sp pAd ?_
        refine sp pMa ?_
        refine oNil ?_
        refine ⟨i + 1, ⟨by omega, ?_⟩, by show l.ls.length - (i + 1) < l.ls.length - i; omega, weak_sub ⟨rfl, rfl, gInt rfl (by simp), trivial⟩ (by repeat constructor)⟩
        rw [hv, drop_step ha]
        simp [costL, c20]
    · skip
      refine aExit rfl ?_
      refine aSeq ?_
      refine aReg ?_
      refine sp pMa ?_
      refine oNil ?_
      refine aRet ?_
      refine ⟨_, [], _, rfl, .nil, ?_, rfl⟩
      show AV.int 0 = AV.int _
      rw [hv, List.drop_of_length_le (by omega)]
      rfl

theorem cast_lsa0 : Cast (.agg [.int 0, .int 0, .v (.slice none 0 0)]) (.agg (lsaC ⟨0, 0, []⟩)) := by
  refine cast_aggs rfl (fun i y c hy hc => ?_)
  match i with
  | 0 => simp at hy; subst hy; simp [lsaC] at hc; subst hc; exact Cast.refl
  | 1 => simp at hy; subst hy; simp [lsaC] at hc; subst hc; exact Cast.refl
  | 2 => simp at hy; subst hy; simp [lsaC] at hc; subst hc; exact cast_nil
  | i + 3 => simp at hy

/- waymarkref11.Get -/
set_option maxRecDepth 100000 in
set_option maxHeartbeats 400000 in
theorem ref11_Get (db : List Lsa) (n : Int) (hl : db.length ≤ 4000) : Triple Try.prog 142 [AV.sl 3 (db.map lsaC), AV.int n] [] (fun r h' => r = .agg (lsaC (refGet db n)) ∧ h' = []) := by
  refine triple_ofR Try.func142 rfl (by kernel_rfl) rfl (by simp) ?_
  refine aSeq ?_
  refine aReg ?_
  refine sq ?_
  refine qAlloc rfl rfl (by decide) ze_141 rfl (fun b4 => ?_)
  refine oNil ?_
  refine aSeq ?_
  refine aSeq ?_
  refine aReg ?_
  refine sp pMa ?_
  refine oNil ?_
  refine aBlock ?_
  refine aLoopI (α := Nat × List AV) (fun (i, z) => i ≤ db.length ∧ refGet db n = refGet (db.drop i) n ∧ z.length = 3) (fun (i, z) => ([(0, AV.sl 3 (db.map lsaC)), (1, .int n), (4, .v (.pointer (some ⟨b4, 0, none⟩))), (5, .int i)], [.box b4 z])) (fun (i, z) => db.length - i) (0, [.int 0, .int 0, .v (.slice none 0 0)]) ?_ ?_ ?_
  · skip
    exact ⟨by omega, rfl, rfl⟩
  · skip
    exact weak_sub ⟨rfl, rfl, rfl, gInt rfl (by simp), trivial⟩ (by repeat constructor)
  · rintro ⟨i, z⟩ ⟨hi, hv, hz⟩
    skip
    refine aSeq ?_
    refine aSeq ?_
    refine aReg ?_
    refine sp pM ?_
    refine sp pM ?_
    refine sp (by first | exact pLm sl_55 | exact pLs sl_55 | exact pLv sl_55) ?_
    refine sp pB ?_
    refine oNil ?_
    refine aCondDec rfl (fun c9 => ?_) (fun c9 => ?_)
    · skip
      refine aSkip ?_
      refine aSeq ?_
      refine aBlock ?_
      refine aSeq ?_
      refine aReg ?_
      refine sp pM ?_
      refine sp pM ?_
      obtain ⟨a, ha⟩ : ∃ a, db[i]? = some a := ⟨_, List.getElem?_eq_getElem (by omega)⟩
      obtain ⟨z0, z1, z2, rfl⟩ : ∃ z0 z1 z2, z = [z0, z1, z2] := by
        match z, hz with
        | [z0, z1, z2], _ => exact ⟨z0, z1, z2, rfl⟩
      refine sp (pIdxS rfl rfl rfl es_55 (by omega) (map_get (f := lsaC) ha)) ?_
      refine sp (by first | exact pFb fd_141_0 | exact pFs fd_141_0) ?_
      refine sr (by first | exact rS1 ty_3 | exact rB1 ty_3 | exact rAr ty_3 | exact rArL ty_3 | exact rArR2 ty_3) ?_
      refine sp pM ?_
      refine sp pB ?_
      refine oNil ?_
      refine aCondEq rfl (fun c18 => ?_) (fun c18 => ?_)
      · skip
        refine aSeq ?_
        refine aReg ?_
        refine sp pM ?_
        refine sp pM ?_
        refine sp (pIdxS rfl rfl rfl es_55 (by omega) (map_get (f := lsaC) ha)) ?_
        refine sr (by first | exact rSW ty_141 rfl | exact rSA ty_141 | exact rBWa ty_141 | exact rBW ty_141 | exact rBA ty_141 | exact rArA ty_141 (fun _ => rfl)) ?_
        refine sa ?_
        refine oStW rfl rfl rfl rfl (by repeat constructor) ty_141 ?_
        refine oNil ?_
        refine aRet ?_
        refine ⟨_, [], _, .cons (.cellA rfl List.mem_cons_self ty_141) .nil, .nil, ?_, rfl⟩
        show AV.agg _ = AV.agg _
        rw [hv, drop_step ha]
        simp [refGet, c18]
        rfl
      · skip
        refine aSkip ?_
        refine aReg ?_
        refine sp pM ?_
        refine sp pAd ?_
        refine sp pMa ?_
        refine oNil ?_
        refine ⟨(i + 1, [z0, z1, z2]), ⟨by omega, ?_, hz⟩, by show db.length - (i + 1) < db.length - i; omega, weak_sub ⟨rfl, rfl, rfl, gInt rfl (by simp), trivial⟩ (by repeat constructor)⟩
        rw [hv, drop_step ha]
        simp [refGet, c18]
    · skip
      refine aExit rfl ?_
      refine aSeq ?_
      refine aReg ?_
      obtain ⟨z0, z1, z2, rfl⟩ : ∃ z0 z1 z2, z = [z0, z1, z2] := by
        match z, hz with
        | [z0, z1, z2], _ => exact ⟨z0, z1, z2, rfl⟩
      refine sp (pBuild rfl st_141 ze_141 rfl rfl rfl rfl) ?_
      refine sa ?_
      refine oStW rfl rfl rfl rfl (by repeat constructor) ty_141 ?_
      refine oNil ?_
      refine aRet ?_
      refine ⟨_, [], _, .cons (.cast (.cellA rfl List.mem_cons_self ty_141) (b := .agg (lsaC ⟨0, 0, []⟩)) ?_) .nil, .nil, ?_, rfl⟩
      · exact cast_lsa0
      show AV.agg _ = AV.agg _
      rw [hv, List.drop_of_length_le (by omega)]
      rfl

theorem linksB_spec {o : Int} : ∀ {l : List Link} {last : Int}, linksB o last l = true → (∀ x ∈ l, last < x.t ∧ nodeB x.t = true ∧ x.t ≠ o ∧ 1 ≤ x.c ∧ x.c ≤ 1073741824) ∧ l.Pairwise (fun x y => x.t < y.t)
  | [], _, _ => ⟨fun x hx => by simp at hx, .nil⟩
  | y :: l, last, h => by
    simp only [linksB, Bool.and_eq_true, decide_eq_true_eq, Bool.not_eq_true', beq_eq_false_iff_ne] at h
    obtain ⟨⟨⟨⟨⟨h1, h2⟩, h3⟩, h4⟩, h5⟩, h6⟩ := h
    obtain ⟨i1, i2⟩ := linksB_spec h6
    refine ⟨fun x hx => ?_, .cons (fun x hx => (i1 x hx).1) i2⟩
    rcases List.mem_cons.1 hx with rfl | hx
    · exact ⟨h2, h1, h3, h4, h5⟩
    · have := i1 x hx; exact ⟨by omega, this.2⟩
theorem lsdbB_spec : ∀ {l : List Lsa} {last : Int}, lsdbB last l = true → (∀ x ∈ l, last < x.o ∧ lsaB x = true) ∧ l.Pairwise (fun x y => x.o < y.o)
  | [], _, _ => ⟨fun x hx => by simp at hx, .nil⟩
  | y :: l, last, h => by
    simp only [lsdbB, Bool.and_eq_true, decide_eq_true_eq] at h
    obtain ⟨⟨h1, h2⟩, h3⟩ := h
    obtain ⟨i1, i2⟩ := lsdbB_spec h3
    refine ⟨fun x hx => ?_, .cons (fun x hx => (i1 x hx).1) i2⟩
    rcases List.mem_cons.1 hx with rfl | hx
    · exact ⟨h2, h1⟩
    · have := i1 x hx; exact ⟨by omega, this.2⟩
theorem pw_inj {α : Type} {f : α → Int} : ∀ {l : List α}, l.Pairwise (fun x y => f x < f y) → ∀ x ∈ l, ∀ y ∈ l, f x = f y → x = y
  | [], _, x, hx, _, _, _ => by simp at hx
  | z :: l, h, x, hx, y, hy, e => by
    rw [List.pairwise_cons] at h
    rcases List.mem_cons.1 hx with h1 | h1 <;> rcases List.mem_cons.1 hy with h2 | h2
    · rw [h1, h2]
    · subst h1; have := h.1 y h2; omega
    · subst h2; have := h.1 x h1; omega
    · exact pw_inj h.2 x h1 y h2 e
theorem find_rev {α : Type} {p : α → Bool} {l : List α} (hu : ∀ x ∈ l, ∀ y ∈ l, p x = true → p y = true → x = y) : l.reverse.find? p = l.find? p := by
  cases h1 : l.reverse.find? p with
  | none =>
    symm
    rw [List.find?_eq_none] at h1 ⊢
    exact fun x hx => h1 x (by simpa using hx)
  | some x =>
    cases h2 : l.find? p with
    | none =>
      rw [List.find?_eq_none] at h2
      exact absurd (List.find?_some h1) (h2 x (by simpa using List.mem_of_find?_eq_some h1))
    | some y => rw [hu x (by simpa using List.mem_of_find?_eq_some h1) y (List.mem_of_find?_eq_some h2) (List.find?_some h1) (List.find?_some h2)]
theorem getL_ref {db : List Lsa} (h : lsdbB 0 db = true) (n : Int) : getL db n = refGet db n := by
  unfold getL refGet
  rw [find_rev (fun x hx y hy px py => ?_)]
  have := (lsdbB_spec h).2
  exact pw_inj this x hx y hy (by simp at px py; rw [px, py])
theorem arcsAll_ref {db : List Lsa} (h : lsdbB 0 db = true) : arcsAll db = refAll db := by
  have : arcOf db = refArc db := by funext l x; simp only [arcOf, refArc, getL_ref h]
  unfold arcsAll refAll arcsOf refArcs
  rw [this]
theorem getL_mem {db : List Lsa} (h : lsdbB 0 db = true) {l : Lsa} (hl : l ∈ db) : getL db l.o = l := by
  rw [getL_ref h]
  unfold refGet
  cases hf : db.find? (fun x => x.o == l.o) with
  | none => rw [List.find?_eq_none] at hf; exact absurd (by simp) (hf l hl)
  | some x =>
    have h1 := List.mem_of_find?_eq_some hf
    have h2 := List.find?_some hf
    exact pw_inj (lsdbB_spec h).2 x h1 l hl (by simpa using h2)
theorem lsaB_links {l : Lsa} (h : lsaB l = true) : linksB l.o 0 l.ls = true := by simp only [lsaB, Bool.and_eq_true] at h; exact h.2
theorem costL_pos {ls : List Link} {n : Int} (h : 0 < costL ls n) : ∃ y ∈ ls, y.t = n := by
  unfold costL at h
  cases hf : ls.find? (fun x => x.t == n) with
  | none => rw [hf] at h; simp at h
  | some y => exact ⟨y, List.mem_of_find?_eq_some hf, by simpa using List.find?_some hf⟩
theorem costL_mem {l : Lsa} (h : lsaB l = true) {x : Link} (hx : x ∈ l.ls) : 0 < costL l.ls x.t := by
  unfold costL
  cases hf : l.ls.find? (fun y => y.t == x.t) with
  | none => rw [List.find?_eq_none] at hf; exact absurd (by simp) (hf x hx)
  | some y =>
    have := ((linksB_spec (lsaB_links h)).1 y (List.mem_of_find?_eq_some hf)).2.2.2.1
    show 0 < y.c
    omega
theorem mem_arcsAll {db : List Lsa} {a : Arc} : a ∈ arcsAll db ↔ ∃ l ∈ db, ∃ x ∈ l.ls, 0 < costL (getL db x.t).ls l.o ∧ a = ⟨l.o, x.t, x.c⟩ := by
  unfold arcsAll arcsOf arcOf
  simp only [List.mem_flatMap, List.mem_filterMap]
  constructor
  · rintro ⟨l, hl, x, hx, h⟩
    split at h
    · rename_i hc; exact ⟨l, hl, x, hx, hc, by simpa using h.symm⟩
    · simp at h
  · rintro ⟨l, hl, x, hx, hc, rfl⟩
    exact ⟨l, hl, x, hx, by rw [if_pos hc]⟩
theorem arcs_back {db : List Lsa} (h : lsdbB 0 db = true) {a : Arc} (ha : a ∈ arcsAll db) : ∃ b ∈ arcsAll db, b.f = a.t ∧ b.t = a.f := by
  obtain ⟨l, hl, x, hx, hc, rfl⟩ := mem_arcsAll.1 ha
  obtain ⟨y, hy, hyt⟩ := costL_pos hc
  have hm : getL db x.t ∈ db ∧ (getL db x.t).o = x.t := by
    rw [getL_ref h] at hy ⊢
    unfold refGet at hy ⊢
    cases hf : db.find? (fun z => z.o == x.t) with
    | none => rw [hf] at hy; simp at hy
    | some z => exact ⟨List.mem_of_find?_eq_some hf, by simpa using List.find?_some hf⟩
  refine ⟨⟨x.t, l.o, y.c⟩, mem_arcsAll.2 ⟨_, hm.1, y, hy, ?_, ?_⟩, rfl, rfl⟩
  · rw [hyt, getL_mem h hl, hm.2]
    exact costL_mem ((lsdbB_spec h).1 l hl).2 hx
  · rw [hm.2, hyt]
theorem orderA_neg {a b : Arc} : ltA a b ↔ a.f < b.f ∨ (a.f = b.f ∧ a.t < b.t) := Iff.rfl
theorem arcsAll_ok {db : List Lsa} (h : lsdbB 0 db = true) : arcsB none (arcsAll db) = true := by
  have hs := lsdbB_spec h
  refine arcsB_of (fun a ha => ?_) (fun q hq => by cases hq) ?_
  · obtain ⟨l, hl, x, hx, _, rfl⟩ := mem_arcsAll.1 ha
    have h1 := (hs.1 l hl).2
    have h2 := (linksB_spec (lsaB_links h1)).1 x hx
    simp only [lsaB, Bool.and_eq_true] at h1
    simp only [arcB, h1.1.1.1.1, h2.2.1, Bool.and_eq_true, Bool.not_eq_true', beq_eq_false_iff_ne, decide_eq_true_eq]
    exact ⟨⟨⟨⟨trivial, trivial⟩, fun e => h2.2.2.1 e.symm⟩, h2.2.2.2.1⟩, h2.2.2.2.2⟩
  · unfold arcsAll
    rw [List.pairwise_flatMap]
    refine ⟨fun l hl => ?_, hs.2.imp ?_⟩
    · unfold arcsOf
      rw [List.pairwise_filterMap]
      refine (linksB_spec (lsaB_links (hs.1 l hl).2)).2.imp ?_
      intro x y hxy a ha b hb
      unfold arcOf at ha hb
      split at ha <;> simp at ha
      split at hb <;> simp at hb
      subst ha; subst hb
      exact orderA_neg.2 (.inr ⟨rfl, hxy⟩)
    · intro l m hlm a ha b hb
      unfold arcsOf arcOf at ha hb
      simp only [List.mem_filterMap] at ha hb
      obtain ⟨x, _, ha⟩ := ha
      obtain ⟨y, _, hb⟩ := hb
      split at ha <;> simp at ha
      split at hb <;> simp at hb
      subst ha; subst hb
      exact orderA_neg.2 (.inl hlm)
def backP (a b : Arc) : Bool := b.f == a.t && b.t == a.f
theorem any_take {α : Type} {p : α → Bool} {l : List α} {i : Nat} {a : α} (h : l[i]? = some a) : (l.take (i + 1)).any p = ((l.take i).any p || p a) := by rw [take_step h]; simp
theorem arcs_any {db : List Lsa} (h : lsdbB 0 db = true) {a : Arc} (ha : a ∈ arcsDb db) : (arcsDb db).any (backP a) = true := by
  rw [arcsDb, if_pos h] at ha ⊢
  obtain ⟨b, hb, h1, h2⟩ := arcs_back h ha
  rw [List.any_eq_true]
  exact ⟨b, hb, by simp [backP, h1, h2]⟩
theorem arcs_len {db : List Lsa} (hl : db.length ≤ 70) (hm : ∀ x ∈ db, x.ls.length ≤ 40) : (arcsDb db).length ≤ 4000 := by
  have key : ∀ (d : List Lsa), (∀ x ∈ d, x.ls.length ≤ 40) → (d.flatMap (arcsOf db)).length ≤ d.length * 40 := by
    intro d
    induction d with
    | nil => intro _; simp
    | cons x d ih =>
      intro hm
      have h1 := ih (fun y hy => hm y (by simp [hy]))
      have h2 : (arcsOf db x).length ≤ x.ls.length := List.length_filterMap_le _ _
      have h3 := hm x (by simp)
      rw [List.flatMap_cons, List.length_append, List.length_cons]
      omega
  unfold arcsDb
  split
  · have := key db hm
    unfold arcsAll
    omega
  · simp
theorem ref_len {db : List Lsa} (hl : db.length ≤ 70) (hm : ∀ x ∈ db, x.ls.length ≤ 40) : (refAll db).length ≤ 4000 := by
  have key : ∀ (d : List Lsa), (∀ x ∈ d, x.ls.length ≤ 40) → (d.flatMap (refArcs db)).length ≤ d.length * 40 := by
    intro d
    induction d with
    | nil => intro _; simp
    | cons x d ih =>
      intro hm
      have h1 := ih (fun y hy => hm y (by simp [hy]))
      have h2 : (refArcs db x).length ≤ x.ls.length := List.length_filterMap_le _ _
      have h3 := hm x (by simp)
      rw [List.flatMap_cons, List.length_append, List.length_cons]
      omega
  have := key db hm
  unfold refAll
  omega

end A
end Go.Proofs.Ytmcannmjielalaa
