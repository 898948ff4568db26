/- What functions of the program compute: lsa -/
import Derived.Test.YtmkphhjlmhhokaaBgraph
import Derived.Test.YtmkphhjlmhhokaaProg
import Derived.KernelRfl
set_option linter.unusedVariables false
set_option linter.unusedSimpArgs false
namespace Go.Proofs.Ytmkphhjlmhhokaa
namespace A

structure Link where
  t : Int
  c : Int
  deriving DecidableEq
structure Lsa where
  o : Int
  s : Int
  ls : List Link
  deriving DecidableEq
def linkC (x : Link) : List AV := [.int x.t, .int x.c]
def lsaC (l : Lsa) : List AV := [.int l.o, .int l.s, .sl 2 (l.ls.map linkC)]
/-- Links from a place on, behind the last node. -/
def linksB (o : Int) : Int → List Link → Bool
  | _, [] => true
  | last, x :: l => (nodeB x.t && decide (last < x.t) && !(x.t == o) && decide (1 ≤ x.c) && decide (x.c ≤ 1073741824)) && linksB o x.t l
def lsaB (l : Lsa) : Bool := nodeB l.o && decide (1 ≤ l.s) && decide (l.s ≤ 4611686018427387904) && decide (l.ls.length ≤ 16) && linksB l.o 0 l.ls
theorem links_step {o last : Int} {l : List Link} {i : Nat} {x : Link} (h : l[i]? = some x) : linksB o last (l.drop i) = ((nodeB x.t && decide (last < x.t) && !(x.t == o) && decide (1 ≤ x.c) && decide (x.c ≤ 1073741824)) && linksB o x.t (l.drop (i + 1))) := by
  rw [drop_step h]
  rfl

/- lsa.node -/
set_option maxRecDepth 100000 in
set_option maxHeartbeats 400000 in
theorem lsa_node (n : Int) : Triple Try.prog 62 [AV.int n] [] (fun r h' => r = .v (.bool (nodeB n)) ∧ h' = []) := by
  refine triple_of Try.func62 rfl (by kernel_rfl) rfl (by simp) ?_
  refine aSeq ?_
  refine aReg ?_
  refine oP rfl (by exact pMv (.inr rfl) rfl) rfl (by decide) ?_
  refine oNil ?_
  refine aSeq ?_
  refine aReg ?_
  refine oP rfl (by exact pMv (.inl rfl) rfl) rfl (by decide) ?_
  refine oP rfl (by exact pBin rfl rfl rfl rfl rfl) rfl (by decide) ?_
  refine oP rfl (by exact pMv (.inl rfl) rfl) rfl (by decide) ?_
  refine oSplitDec 5 rfl (fun c5 => ?_) (fun c5 => ?_)
  · skip
    refine oGP rfl rfl rfl rfl (by exact pMv (.inl rfl) rfl) rfl (by decide) ?_
    refine oGP rfl rfl rfl rfl (by exact pBin rfl rfl rfl rfl rfl) rfl (by decide) ?_
    refine oP rfl (by exact pPick rfl rfl rfl) rfl (by decide) ?_
    refine oP rfl (by exact pMv (.inr rfl) rfl) rfl (by decide) ?_
    refine oNil ?_
    refine aRet ?_
    refine ⟨_, [], _, rfl, .nil, ?_, rfl⟩
    simp [retOf, nodeB]
    omega
  · skip
    refine oGF rfl rfl rfl rfl rfl (by decide) ?_
    refine oGF rfl rfl rfl rfl rfl (by decide) ?_
    refine oP rfl (by exact pPick rfl rfl rfl) rfl (by decide) ?_
    refine oP rfl (by exact pMv (.inr rfl) rfl) rfl (by decide) ?_
    refine oNil ?_
    refine aRet ?_
    refine ⟨_, [], _, rfl, .nil, ?_, rfl⟩
    simp [retOf, nodeB]
    omega

/- lsa.Check -/
set_option maxRecDepth 100000 in
set_option maxHeartbeats 2000000 in
theorem lsa_Check (l : Lsa) : Triple Try.prog 50 [AV.agg (lsaC l)] [] (fun r h' => r = .int (if lsaB l then 0 else 1) ∧ h' = []) := by
  refine triple_of Try.func50 rfl (by kernel_rfl) rfl (by simp) ?_
  refine aSeq ?_
  refine aReg ?_
  refine oQ rfl ?_
  refine qBox rfl rfl (by decide) rfl rfl (fun b1 => ?_)
  refine oP rfl (by exact pMv (.inr rfl) rfl) rfl (by decide) ?_
  refine oNil ?_
  refine aSeq ?_
  refine aSeq ?_
  refine aReg ?_
  refine oP rfl (by first | exact pFldB rfl rfl fd_52_0 | exact pFldS rfl rfl fd_52_0) rfl (by decide) ?_
  refine oR rfl (by first | exact rLdS1 rfl rfl ty_3 rfl | exact rLdB1 rfl rfl (by repeat constructor) ty_3 rfl) rfl (by decide) ?_
  refine oQ rfl ?_
  refine qCallV rfl rfl (by decide) rfl rfl (lents_refl _) (lsa_node _) ?_
  refine oP rfl (by exact pNot rfl rfl) rfl (by decide) ?_
  refine oP rfl (by exact pMv (.inl rfl) rfl) rfl (by decide) ?_
  refine oSplitNot 10 rfl (fun c10 => ?_) (fun c10 => ?_)
  · skip
    refine oGF rfl rfl rfl rfl rfl (by decide) ?_
    refine oGF rfl rfl rfl rfl rfl (by decide) ?_
    refine oGF rfl rfl rfl rfl rfl (by decide) ?_
    refine oP rfl (by exact pPick rfl rfl rfl) rfl (by decide) ?_
    refine oP rfl (by exact pMv (.inl rfl) rfl) rfl (by decide) ?_
    refine oGF rfl rfl rfl rfl rfl (by decide) ?_
    refine oGF rfl rfl rfl rfl rfl (by decide) ?_
    refine oGF rfl rfl rfl rfl rfl (by decide) ?_
    refine oP rfl (by exact pPick rfl rfl rfl) rfl (by decide) ?_
    refine oP rfl (by exact pMv (.inl rfl) rfl) rfl (by decide) ?_
    refine oGF rfl rfl rfl rfl rfl (by decide) ?_
    refine oGF rfl rfl rfl rfl rfl (by decide) ?_
    refine oGF rfl rfl rfl rfl rfl (by decide) ?_
    refine oGF rfl rfl rfl rfl rfl (by decide) ?_
    refine oP rfl (by exact pPick rfl rfl rfl) rfl (by decide) ?_
    refine oNil ?_
    refine aCondT rfl ?_
    refine aSeq ?_
    refine aReg ?_
    refine oP rfl (by exact pMv (.inr rfl) rfl) rfl (by decide) ?_
    refine oNil ?_
    refine aRet ?_
    refine ⟨_, [], _, rfl, .nil, ?_, rfl⟩
    show AV.int 1 = AV.int _
    simp_all [lsaB]
    all_goals (intros; omega)
  · skip
    refine oGP rfl rfl rfl rfl (by first | exact pFldB rfl rfl fd_52_1 | exact pFldS rfl rfl fd_52_1) rfl (by decide) ?_
    refine oGR rfl rfl rfl rfl (by first | exact rLdS1 rfl rfl ty_3 rfl | exact rLdB1 rfl rfl (by repeat constructor) ty_3 rfl) rfl (by decide) ?_
    refine oGP rfl rfl rfl rfl (by exact pBin rfl rfl rfl rfl rfl) rfl (by decide) ?_
    refine oP rfl (by exact pPick rfl rfl rfl) rfl (by decide) ?_
    refine oP rfl (by exact pMv (.inl rfl) rfl) rfl (by decide) ?_
    refine oSplitDec 15 rfl (fun c15 => ?_) (fun c15 => ?_)
    · skip
      refine oGF rfl rfl rfl rfl rfl (by decide) ?_
      refine oGF rfl rfl rfl rfl rfl (by decide) ?_
      refine oGF rfl rfl rfl rfl rfl (by decide) ?_
      refine oP rfl (by exact pPick rfl rfl rfl) rfl (by decide) ?_
      refine oP rfl (by exact pMv (.inl rfl) rfl) rfl (by decide) ?_
      refine oGF rfl rfl rfl rfl rfl (by decide) ?_
      refine oGF rfl rfl rfl rfl rfl (by decide) ?_
      refine oGF rfl rfl rfl rfl rfl (by decide) ?_
      refine oGF rfl rfl rfl rfl rfl (by decide) ?_
      refine oP rfl (by exact pPick rfl rfl rfl) rfl (by decide) ?_
      refine oNil ?_
      refine aCondT rfl ?_
      refine aSeq ?_
      refine aReg ?_
      refine oP rfl (by exact pMv (.inr rfl) rfl) rfl (by decide) ?_
      refine oNil ?_
      refine aRet ?_
      refine ⟨_, [], _, rfl, .nil, ?_, rfl⟩
      show AV.int 1 = AV.int _
      simp_all [lsaB]
      all_goals (intros; omega)
    · skip
      refine oGP rfl rfl rfl rfl (by first | exact pFldB rfl rfl fd_52_1 | exact pFldS rfl rfl fd_52_1) rfl (by decide) ?_
      refine oGR rfl rfl rfl rfl (by first | exact rLdS1 rfl rfl ty_3 rfl | exact rLdB1 rfl rfl (by repeat constructor) ty_3 rfl) rfl (by decide) ?_
      refine oGP rfl rfl rfl rfl (by exact pBin rfl rfl rfl rfl rfl) rfl (by decide) ?_
      refine oP rfl (by exact pPick rfl rfl rfl) rfl (by decide) ?_
      refine oP rfl (by exact pMv (.inl rfl) rfl) rfl (by decide) ?_
      refine oSplitDec 20 rfl (fun c20 => ?_) (fun c20 => ?_)
      · skip
        refine oGF rfl rfl rfl rfl rfl (by decide) ?_
        refine oGF rfl rfl rfl rfl rfl (by decide) ?_
        refine oGF rfl rfl rfl rfl rfl (by decide) ?_
        refine oGF rfl rfl rfl rfl rfl (by decide) ?_
        refine oP rfl (by exact pPick rfl rfl rfl) rfl (by decide) ?_
        refine oNil ?_
        refine aCondT rfl ?_
        refine aSeq ?_
        refine aReg ?_
        refine oP rfl (by exact pMv (.inr rfl) rfl) rfl (by decide) ?_
        refine oNil ?_
        refine aRet ?_
        refine ⟨_, [], _, rfl, .nil, ?_, rfl⟩
        show AV.int 1 = AV.int _
        simp_all [lsaB]
        all_goals (intros; omega)
      · skip
        refine oGP rfl rfl rfl rfl (by first | exact pFldB rfl rfl fd_52_2 | exact pFldS rfl rfl fd_52_2) rfl (by decide) ?_
        refine oGR rfl rfl rfl rfl (by first | exact rLdS1 rfl rfl ty_50 rfl | exact rLdB1 rfl rfl (by repeat constructor) ty_50 rfl) rfl (by decide) ?_
        refine oGP rfl rfl rfl rfl (by first | exact pLenS' (pLenS rfl rfl sl_50) (List.length_map _) | exact pLenS rfl rfl sl_50 | exact pLenV rfl rfl sl_50) rfl (by decide) ?_
        refine oGP rfl rfl rfl rfl (by exact pBin rfl rfl rfl rfl rfl) rfl (by decide) ?_
        refine oP rfl (by exact pPick rfl rfl rfl) rfl (by decide) ?_
        refine oNil ?_
        refine aCondDec rfl (fun c25 => ?_) (fun c25 => ?_)
        · skip
          refine aSeq ?_
          refine aReg ?_
          refine oP rfl (by exact pMv (.inr rfl) rfl) rfl (by decide) ?_
          refine oNil ?_
          refine aRet ?_
          refine ⟨_, [], _, rfl, .nil, ?_, rfl⟩
          show AV.int 1 = AV.int _
          simp_all [lsaB]
          all_goals (intros; omega)
        · skip
          refine aSkip ?_
          refine aSeq ?_
          refine aReg ?_
          refine oP rfl (by exact pMv (.inr rfl) rfl) rfl (by decide) ?_
          refine oNil ?_
          refine aSeq ?_
          refine aSeq ?_
          refine aReg ?_
          refine oP rfl (by first | exact pFldB rfl rfl fd_52_2 | exact pFldS rfl rfl fd_52_2) rfl (by decide) ?_
          refine oR rfl (by first | exact rLdS1 rfl rfl ty_50 rfl | exact rLdB1 rfl rfl (by repeat constructor) ty_50 rfl) rfl (by decide) ?_
          refine oP rfl (by first | exact pLenS' (pLenS rfl rfl sl_50) (List.length_map _) | exact pLenS rfl rfl sl_50 | exact pLenV rfl rfl sl_50) rfl (by decide) ?_
          refine oP rfl (by exact pMv (.inl rfl) rfl) rfl (by decide) ?_
          refine oNil ?_
          refine aBlock ?_
          refine aLoopI (α := Nat × Int) (fun (i, last) => i ≤ l.ls.length ∧ linksB l.o 0 l.ls = linksB l.o last (l.ls.drop i)) (fun (i, last) => ([(1, .v (.pointer (some ⟨b1, 0, none⟩))), (3, .int last), (27, .sl 2 (l.ls.map linkC)), (28, .int l.ls.length), (29, .int i)], [.box b1 (lsaC l)])) (fun (i, last) => l.ls.length - i) (0, 0) ?_ ?_ ?_
          · skip
            exact ⟨by omega, rfl⟩
          · skip
            exact weak_sub ⟨rfl, rfl, rfl, gInt rfl (by simp), rfl, trivial⟩ (by repeat constructor)
          · rintro ⟨i, last⟩ ⟨hi, hv⟩
            skip
            refine aSeq ?_
            refine aReg ?_
            have hlen : l.ls.length ≤ 16 := by simp at *; omega
            refine oP rfl (by exact pBin rfl rfl rfl rfl rfl) rfl (by decide) ?_
            refine oNil ?_
            refine aSeq ?_
            refine aCondDec rfl (fun c30 => ?_) (fun c30 => ?_)
            · skip
              refine aSkip ?_
              refine aSeq ?_
              refine aBlock ?_
              refine aSeq ?_
              refine aReg ?_
              obtain ⟨a, ha⟩ : ∃ a, l.ls[i]? = some a := ⟨_, List.getElem?_eq_getElem (by omega)⟩
              refine oP rfl (by exact pIdxS rfl rfl rfl es_50 (by omega) (map_get (f := linkC) ha)) rfl (by decide) ?_
              refine oR rfl (by first | exact rLdSA rfl rfl ty_54 (Nat.le_of_ble_eq_true rfl) | exact rLdBA rfl rfl (by repeat constructor) ty_54 (Nat.le_of_ble_eq_true rfl)) rfl (by decide) ?_
              refine oQ rfl ?_
              refine qAlloc rfl rfl (by decide) ze_54 rfl (fun b5 => ?_)
              refine oA rfl ?_
              refine oStB rfl rfl rfl rfl (by repeat constructor) ty_54 rfl (Nat.le_of_ble_eq_true rfl) rfl ?_
              refine oNil ?_
              refine aSeq ?_
              refine aSeq ?_
              refine aReg ?_
              refine oP rfl (by first | exact pFldB rfl rfl fd_54_0 | exact pFldS rfl rfl fd_54_0) rfl (by decide) ?_
              refine oR rfl (by first | exact rLdS1 rfl rfl ty_3 rfl | exact rLdB1 rfl rfl (by repeat constructor) ty_3 rfl) rfl (by decide) ?_
              refine oQ rfl ?_
              refine qCallV rfl rfl (by decide) rfl rfl (lents_refl _) (lsa_node _) ?_
              refine oP rfl (by exact pNot rfl rfl) rfl (by decide) ?_
              refine oP rfl (by exact pMv (.inl rfl) rfl) rfl (by decide) ?_
              refine oSplitNot 37 rfl (fun c37 => ?_) (fun c37 => ?_)
              · skip
                refine oGF rfl rfl rfl rfl rfl (by decide) ?_
                refine oGF rfl rfl rfl rfl rfl (by decide) ?_
                refine oGF rfl rfl rfl rfl rfl (by decide) ?_
                refine oGF rfl rfl rfl rfl rfl (by decide) ?_
                refine oP rfl (by exact pPick rfl rfl rfl) rfl (by decide) ?_
                refine oP rfl (by exact pMv (.inl rfl) rfl) rfl (by decide) ?_
                refine oGF rfl rfl rfl rfl rfl (by decide) ?_
                refine oGF rfl rfl rfl rfl rfl (by decide) ?_
                refine oGF rfl rfl rfl rfl rfl (by decide) ?_
                refine oGF rfl rfl rfl rfl rfl (by decide) ?_
                refine oGF rfl rfl rfl rfl rfl (by decide) ?_
                refine oP rfl (by exact pPick rfl rfl rfl) rfl (by decide) ?_
                refine oP rfl (by exact pMv (.inl rfl) rfl) rfl (by decide) ?_
                refine oGF rfl rfl rfl rfl rfl (by decide) ?_
                refine oGF rfl rfl rfl rfl rfl (by decide) ?_
                refine oGF rfl rfl rfl rfl rfl (by decide) ?_
                refine oP rfl (by exact pPick rfl rfl rfl) rfl (by decide) ?_
                refine oP rfl (by exact pMv (.inl rfl) rfl) rfl (by decide) ?_
                refine oGF rfl rfl rfl rfl rfl (by decide) ?_
                refine oGF rfl rfl rfl rfl rfl (by decide) ?_
                refine oGF rfl rfl rfl rfl rfl (by decide) ?_
                refine oP rfl (by exact pPick rfl rfl rfl) rfl (by decide) ?_
                refine oNil ?_
                refine aCondT rfl ?_
                refine aSeq ?_
                refine aReg ?_
                refine oP rfl (by exact pMv (.inr rfl) rfl) rfl (by decide) ?_
                refine oNil ?_
                refine aRet ?_
                refine ⟨_, [], _, rfl, .nil, ?_, rfl⟩
                show AV.int 1 = AV.int _
                have hs := links_step (o := l.o) (last := last) ha
                simp_all [lsaB]
                all_goals (intros; omega)
              · skip
                refine oGP rfl rfl rfl rfl (by first | exact pFldB rfl rfl fd_54_0 | exact pFldS rfl rfl fd_54_0) rfl (by decide) ?_
                refine oGR rfl rfl rfl rfl (by first | exact rLdS1 rfl rfl ty_3 rfl | exact rLdB1 rfl rfl (by repeat constructor) ty_3 rfl) rfl (by decide) ?_
                refine oGP rfl rfl rfl rfl (by exact pMv (.inl rfl) rfl) rfl (by decide) ?_
                refine oGP rfl rfl rfl rfl (by exact pBin rfl rfl rfl rfl rfl) rfl (by decide) ?_
                refine oP rfl (by exact pPick rfl rfl rfl) rfl (by decide) ?_
                refine oP rfl (by exact pMv (.inl rfl) rfl) rfl (by decide) ?_
                refine oSplitDec 43 rfl (fun c43 => ?_) (fun c43 => ?_)
                · skip
                  refine oGF rfl rfl rfl rfl rfl (by decide) ?_
                  refine oGF rfl rfl rfl rfl rfl (by decide) ?_
                  refine oGF rfl rfl rfl rfl rfl (by decide) ?_
                  refine oGF rfl rfl rfl rfl rfl (by decide) ?_
                  refine oGF rfl rfl rfl rfl rfl (by decide) ?_
                  refine oP rfl (by exact pPick rfl rfl rfl) rfl (by decide) ?_
                  refine oP rfl (by exact pMv (.inl rfl) rfl) rfl (by decide) ?_
                  refine oGF rfl rfl rfl rfl rfl (by decide) ?_
                  refine oGF rfl rfl rfl rfl rfl (by decide) ?_
                  refine oGF rfl rfl rfl rfl rfl (by decide) ?_
                  refine oP rfl (by exact pPick rfl rfl rfl) rfl (by decide) ?_
                  refine oP rfl (by exact pMv (.inl rfl) rfl) rfl (by decide) ?_
                  refine oGF rfl rfl rfl rfl rfl (by decide) ?_
                  refine oGF rfl rfl rfl rfl rfl (by decide) ?_
                  refine oGF rfl rfl rfl rfl rfl (by decide) ?_
                  refine oP rfl (by exact pPick rfl rfl rfl) rfl (by decide) ?_
                  refine oNil ?_
                  refine aCondT rfl ?_
                  refine aSeq ?_
                  refine aReg ?_
                  refine oP rfl (by exact pMv (.inr rfl) rfl) rfl (by decide) ?_
                  refine oNil ?_
                  refine aRet ?_
                  refine ⟨_, [], _, rfl, .nil, ?_, rfl⟩
                  show AV.int 1 = AV.int _
                  have hs := links_step (o := l.o) (last := last) ha
                  simp_all [lsaB]
                  all_goals (intros; omega)
                · skip
                  refine oGP rfl rfl rfl rfl (by first | exact pFldB rfl rfl fd_54_0 | exact pFldS rfl rfl fd_54_0) rfl (by decide) ?_
                  refine oGR rfl rfl rfl rfl (by first | exact rLdS1 rfl rfl ty_3 rfl | exact rLdB1 rfl rfl (by repeat constructor) ty_3 rfl) rfl (by decide) ?_
                  refine oGP rfl rfl rfl rfl (by first | exact pFldB rfl rfl fd_52_0 | exact pFldS rfl rfl fd_52_0) rfl (by decide) ?_
                  refine oGR rfl rfl rfl rfl (by first | exact rLdS1 rfl rfl ty_3 rfl | exact rLdB1 rfl rfl (by repeat constructor) ty_3 rfl) rfl (by decide) ?_
                  refine oGP rfl rfl rfl rfl (by exact pBin rfl rfl rfl rfl rfl) rfl (by decide) ?_
                  refine oP rfl (by exact pPick rfl rfl rfl) rfl (by decide) ?_
                  refine oP rfl (by exact pMv (.inl rfl) rfl) rfl (by decide) ?_
                  refine oSplitEq 50 rfl (fun c50 => ?_) (fun c50 => ?_)
                  · skip
                    refine oGF rfl rfl rfl rfl rfl (by decide) ?_
                    refine oGF rfl rfl rfl rfl rfl (by decide) ?_
                    refine oGF rfl rfl rfl rfl rfl (by decide) ?_
                    refine oP rfl (by exact pPick rfl rfl rfl) rfl (by decide) ?_
                    refine oP rfl (by exact pMv (.inl rfl) rfl) rfl (by decide) ?_
                    refine oGF rfl rfl rfl rfl rfl (by decide) ?_
                    refine oGF rfl rfl rfl rfl rfl (by decide) ?_
                    refine oGF rfl rfl rfl rfl rfl (by decide) ?_
                    refine oP rfl (by exact pPick rfl rfl rfl) rfl (by decide) ?_
                    refine oNil ?_
                    refine aCondT rfl ?_
                    refine aSeq ?_
                    refine aReg ?_
                    refine oP rfl (by exact pMv (.inr rfl) rfl) rfl (by decide) ?_
                    refine oNil ?_
                    refine aRet ?_
                    refine ⟨_, [], _, rfl, .nil, ?_, rfl⟩
                    show AV.int 1 = AV.int _
                    have hs := links_step (o := l.o) (last := last) ha
                    simp_all [lsaB]
                    all_goals (intros; omega)
                  · skip
                    refine oGP rfl rfl rfl rfl (by first | exact pFldB rfl rfl fd_54_1 | exact pFldS rfl rfl fd_54_1) rfl (by decide) ?_
                    refine oGR rfl rfl rfl rfl (by first | exact rLdS1 rfl rfl ty_3 rfl | exact rLdB1 rfl rfl (by repeat constructor) ty_3 rfl) rfl (by decide) ?_
                    refine oGP rfl rfl rfl rfl (by exact pBin rfl rfl rfl rfl rfl) rfl (by decide) ?_
                    refine oP rfl (by exact pPick rfl rfl rfl) rfl (by decide) ?_
                    refine oP rfl (by exact pMv (.inl rfl) rfl) rfl (by decide) ?_
                    refine oSplitDec 55 rfl (fun c55 => ?_) (fun c55 => ?_)
                    · skip
                      refine oGF rfl rfl rfl rfl rfl (by decide) ?_
                      refine oGF rfl rfl rfl rfl rfl (by decide) ?_
                      refine oGF rfl rfl rfl rfl rfl (by decide) ?_
                      refine oP rfl (by exact pPick rfl rfl rfl) rfl (by decide) ?_
                      refine oNil ?_
                      refine aCondT rfl ?_
                      refine aSeq ?_
                      refine aReg ?_
                      refine oP rfl (by exact pMv (.inr rfl) rfl) rfl (by decide) ?_
                      refine oNil ?_
                      refine aRet ?_
                      refine ⟨_, [], _, rfl, .nil, ?_, rfl⟩
                      show AV.int 1 = AV.int _
                      have hs := links_step (o := l.o) (last := last) ha
                      simp_all [lsaB]
                      all_goals (intros; omega)
                    · skip
                      refine oGP rfl rfl rfl rfl (by first | exact pFldB rfl rfl fd_54_1 | exact pFldS rfl rfl fd_54_1) rfl (by decide) ?_
                      refine oGR rfl rfl rfl rfl (by first | exact rLdS1 rfl rfl ty_3 rfl | exact rLdB1 rfl rfl (by repeat constructor) ty_3 rfl) rfl (by decide) ?_
                      refine oGP rfl rfl rfl rfl (by exact pBin rfl rfl rfl rfl rfl) rfl (by decide) ?_
                      refine oP rfl (by exact pPick rfl rfl rfl) rfl (by decide) ?_
                      refine oNil ?_
                      refine aCondDec rfl (fun c59 => ?_) (fun c59 => ?_)
                      · skip
                        refine aSeq ?_
                        refine aReg ?_
                        refine oP rfl (by exact pMv (.inr rfl) rfl) rfl (by decide) ?_
                        refine oNil ?_
                        refine aRet ?_
                        refine ⟨_, [], _, rfl, .nil, ?_, rfl⟩
                        show AV.int 1 = AV.int _
                        have hs := links_step (o := l.o) (last := last) ha
                        simp_all [lsaB]
                        all_goals (intros; omega)
                      · skip
                        refine aSkip ?_
                        refine aReg ?_
                        refine oP rfl (by first | exact pFldB rfl rfl fd_54_0 | exact pFldS rfl rfl fd_54_0) rfl (by decide) ?_
                        refine oR rfl (by first | exact rLdS1 rfl rfl ty_3 rfl | exact rLdB1 rfl rfl (by repeat constructor) ty_3 rfl) rfl (by decide) ?_
                        refine oP rfl (by exact pMv (.inr rfl) rfl) rfl (by decide) ?_
                        refine oNil ?_
                        refine aReg ?_
                        refine oP rfl (by exact pAdd rfl rfl rfl (by omega) (by omega)) rfl (by decide) ?_
                        refine oP rfl (by exact pMv (.inl rfl) rfl) rfl (by decide) ?_
                        refine oNil ?_
                        have hs := links_step (o := l.o) (last := last) ha
                        refine ⟨(i + 1, a.t), ⟨by omega, ?_⟩, by show l.ls.length - (i + 1) < l.ls.length - i; omega, weak_sub ⟨rfl, rfl, rfl, rfl, gInt rfl (by simp), trivial⟩ (by repeat constructor)⟩
                        rw [hv, hs]
                        simp_all
                        all_goals (intros; omega)
            · skip
              refine aExit rfl ?_
              refine aSeq ?_
              refine aReg ?_
              refine oP rfl (by exact pMv (.inr rfl) rfl) rfl (by decide) ?_
              refine oNil ?_
              refine aRet ?_
              refine ⟨_, [], _, rfl, .nil, ?_, rfl⟩
              show AV.int 0 = AV.int _
              rw [List.drop_of_length_le (by omega)] at hv
              simp_all [lsaB, linksB]
              all_goals (intros; omega)

/-- The place of the first that is meant. -/
def idxI {α : Type} (p : α → Bool) : List α → Nat → Option Nat
  | [], _ => none
  | a :: l, i => if p a then some i else idxI p l (i + 1)
def idxV (o : Option Nat) : Int := match o with | some i => (i : Int) | none => -1
theorem idx_step {α : Type} {p : α → Bool} {l : List α} {i : Nat} {a : α} (h : l[i]? = some a) : idxI p (l.drop i) i = if p a then some i else idxI p (l.drop (i + 1)) (i + 1) := by
  rw [drop_step h]
  rfl
theorem idx_some {α : Type} {p : α → Bool} : ∀ {l : List α} {s i : Nat}, idxI p l s = some i → s ≤ i ∧ ∃ a, l[i - s]? = some a ∧ l.find? p = some a
  | [], s, i, h => by simp [idxI] at h
  | a :: l, s, i, h => by
    simp only [idxI] at h
    by_cases hp : p a = true
    · rw [if_pos hp] at h
      simp only [Option.some.injEq] at h
      subst h
      exact ⟨Nat.le_refl _, a, by simp, by simp [hp]⟩
    · rw [if_neg hp] at h
      obtain ⟨h1, b, h2, h3⟩ := idx_some h
      refine ⟨by omega, b, ?_, by simp [hp, h3]⟩
      rw [show i - s = (i - (s + 1)) + 1 by omega]
      simpa using h2
theorem idx_none {α : Type} {p : α → Bool} : ∀ {l : List α} {s : Nat}, idxI p l s = none → l.find? p = none
  | [], s, h => rfl
  | a :: l, s, h => by
    simp only [idxI] at h
    by_cases hp : p a = true
    · rw [if_pos hp] at h; cases h
    · rw [if_neg hp] at h
      simp [hp, idx_none h]

/- api.Link] -/
set_option maxRecDepth 100000 in
set_option maxHeartbeats 400000 in
theorem index_Link {f : FuncId} {caps : List AV} {p : Link → Bool} (hf : ∀ x : Link, Triple Try.prog f ([AV.agg (linkC x)] ++ caps) [] (fun r h' => r = .v (.bool (p x)) ∧ h' = [])) (l : List Link) (hl : l.length < 4611686018427387904) : Triple Try.prog 51 [AV.sl 2 (l.map linkC), .fn (.func f) caps] [] (fun r h' => r = .int (idxV (idxI p l 0)) ∧ h' = []) := by
  refine triple_of Try.func51 rfl (by kernel_rfl) rfl (by simp) ?_
  refine aSeq ?_
  refine aReg ?_
  refine oP rfl (by exact pMv (.inr rfl) rfl) rfl (by decide) ?_
  refine oNil ?_
  refine aSeq ?_
  refine aSeq ?_
  refine aReg ?_
  refine oP rfl (by exact pMv (.inl rfl) rfl) rfl (by decide) ?_
  refine oP rfl (by first | exact pLenS' (pLenS rfl rfl sl_50) (List.length_map _) | exact pLenS rfl rfl sl_50 | exact pLenV rfl rfl sl_50) rfl (by decide) ?_
  refine oP rfl (by exact pMv (.inl rfl) rfl) rfl (by decide) ?_
  refine oNil ?_
  refine aBlock ?_
  refine aLoopI (α := Nat) (fun i => i ≤ l.length ∧ idxI p l 0 = idxI p (l.drop i) i) (fun i => ([(0, .sl 2 (l.map linkC)), (1, .fn (.func f) caps), (7, .int l.length), (8, .int i)], [])) (fun i => l.length - i) 0 ?_ ?_ ?_
  · skip
    exact ⟨by omega, rfl⟩
  · skip
    exact weak_sub ⟨rfl, rfl, gInt rfl (by simp), rfl, trivial⟩ .nil
  · rintro i ⟨hi, hv⟩
    skip
    refine aSeq ?_
    refine aReg ?_
    refine oP rfl (by exact pBin rfl rfl rfl rfl rfl) rfl (by decide) ?_
    refine oNil ?_
    refine aSeq ?_
    refine aCondDec rfl (fun c9 => ?_) (fun c9 => ?_)
    · skip
      refine aSkip ?_
      refine aSeq ?_
      refine aBlock ?_
      refine aSeq ?_
      refine aReg ?_
      refine oP rfl (by exact pMv (.inl rfl) rfl) rfl (by decide) ?_
      refine oP rfl (by exact pMv (.inr rfl) rfl) rfl (by decide) ?_
      refine oNil ?_
      refine aSeq ?_
      refine aReg ?_
      refine oP rfl (by exact pMv (.inl rfl) rfl) rfl (by decide) ?_
      refine oP rfl (by exact pMv (.inl rfl) rfl) rfl (by decide) ?_
      refine oP rfl (by exact pMv (.inl rfl) rfl) rfl (by decide) ?_
      obtain ⟨a, ha⟩ : ∃ a, l[i]? = some a := ⟨_, List.getElem?_eq_getElem (by omega)⟩
      refine oP rfl (by exact pIdxS rfl rfl rfl es_50 (by omega) (map_get (f := linkC) ha)) rfl (by decide) ?_
      refine oR rfl (by first | exact rLdSA rfl rfl ty_54 (Nat.le_of_ble_eq_true rfl) | exact rLdBA rfl rfl (by repeat constructor) ty_54 (Nat.le_of_ble_eq_true rfl)) rfl (by decide) ?_
      refine oQ rfl ?_
      refine qCallV rfl rfl (by decide) rfl rfl (lents_refl _) (hf a) ?_
      refine oNil ?_
      refine aCond rfl (fun c16 => ?_) (fun c16 => ?_)
      · skip
        refine aSeq ?_
        refine aReg ?_
        refine oP rfl (by exact pMv (.inl rfl) rfl) rfl (by decide) ?_
        refine oP rfl (by exact pMv (.inr rfl) rfl) rfl (by decide) ?_
        refine oNil ?_
        refine aRet ?_
        refine ⟨_, [], _, rfl, .nil, ?_, rfl⟩
        show AV.int _ = AV.int _
        rw [hv, idx_step ha]
        simp_all [idxV]
      · skip
        refine aSkip ?_
        refine aReg ?_
        refine oP rfl (by exact pAdd rfl rfl rfl (by omega) (by omega)) rfl (by decide) ?_
        refine oP rfl (by exact pMv (.inl rfl) rfl) rfl (by decide) ?_
        refine oNil ?_
        refine ⟨i + 1, ⟨by omega, by rw [hv, idx_step ha]; simp_all⟩, by show l.length - (i + 1) < l.length - i; omega, weak_sub ⟨rfl, rfl, rfl, gInt rfl (by simp), trivial⟩ .nil⟩
    · skip
      refine aExit rfl ?_
      refine aSeq ?_
      refine aReg ?_
      refine oP rfl (by exact pMv (.inr rfl) rfl) rfl (by decide) ?_
      refine oNil ?_
      refine aRet ?_
      refine ⟨_, [], _, rfl, .nil, ?_, rfl⟩
      show AV.int _ = AV.int _
      rw [hv, List.drop_of_length_le (by omega)]
      rfl

/- lsa.Cost$1 -/
set_option maxRecDepth 100000 in
set_option maxHeartbeats 400000 in
theorem lsa_Cost1 (x : Link) (n : Int) : Triple Try.prog 52 [AV.agg (linkC x), .sp [.int n]] [] (fun r h' => r = .v (.bool (x.t == n)) ∧ h' = []) := by
  refine triple_of Try.func52 rfl (by kernel_rfl) rfl (by simp) ?_
  refine aSeq ?_
  refine aReg ?_
  refine oQ rfl ?_
  refine qBox rfl rfl (by decide) rfl rfl (fun b2 => ?_)
  refine oP rfl (by exact pMv (.inr rfl) rfl) rfl (by decide) ?_
  refine oNil ?_
  refine aSeq ?_
  refine aReg ?_
  refine oP rfl (by first | exact pFldB rfl rfl fd_54_0 | exact pFldS rfl rfl fd_54_0) rfl (by decide) ?_
  refine oR rfl (by first | exact rLdS1 rfl rfl ty_3 rfl | exact rLdB1 rfl rfl (by repeat constructor) ty_3 rfl) rfl (by decide) ?_
  refine oR rfl (by first | exact rLdS1 rfl rfl ty_3 rfl | exact rLdB1 rfl rfl (by repeat constructor) ty_3 rfl) rfl (by decide) ?_
  refine oP rfl (by exact pBin rfl rfl rfl rfl rfl) rfl (by decide) ?_
  refine oP rfl (by exact pMv (.inr rfl) rfl) rfl (by decide) ?_
  refine oNil ?_
  refine aRet ?_
  exact ⟨_, [], _, rfl, .nil, rfl, rfl⟩

def costL (ls : List Link) (n : Int) : Int := match ls.find? (fun x => x.t == n) with | some x => x.c | none => 0

/- lsa.Cost -/
set_option maxRecDepth 100000 in
set_option maxHeartbeats 400000 in
theorem lsa_Cost (l : Lsa) (n : Int) (hl : l.ls.length < 4611686018427387904) : Triple Try.prog 33 [AV.agg (lsaC l), AV.int n] [] (fun r h' => r = .int (costL l.ls n) ∧ h' = []) := by
  refine triple_of Try.func33 rfl (by kernel_rfl) rfl (by simp) ?_
  refine aSeq ?_
  refine aReg ?_
  refine oQ rfl ?_
  refine qBox rfl rfl (by decide) rfl rfl (fun b2 => ?_)
  refine oQ rfl ?_
  refine qBox rfl rfl (by decide) rfl rfl (fun b3 => ?_)
  refine oP rfl (by exact pMv (.inr rfl) rfl) rfl (by decide) ?_
  refine oNil ?_
  refine aSeq ?_
  refine aReg ?_
  refine oP rfl (by first | exact pFldB rfl rfl fd_52_2 | exact pFldS rfl rfl fd_52_2) rfl (by decide) ?_
  refine oR rfl (by first | exact rLdS1 rfl rfl ty_50 rfl | exact rLdB1 rfl rfl (by repeat constructor) ty_50 rfl) rfl (by decide) ?_
  refine oP rfl (by exact pFn rfl rfl) rfl (by decide) ?_
  refine oQ rfl ?_
  refine qCallV rfl rfl (by decide) rfl rfl (.cons (.same _) (.cons (lent_fn1 (.sp List.mem_cons_self)) .nil)) (index_Link (p := fun x => x.t == n) (fun x => lsa_Cost1 x n) l.ls hl) ?_
  refine oP rfl (by exact pMv (.inr rfl) rfl) rfl (by decide) ?_
  refine oNil ?_
  refine aSeq ?_
  refine aSeq ?_
  refine aReg ?_
  refine oP rfl (by exact pMv (.inl rfl) rfl) rfl (by decide) ?_
  refine oP rfl (by exact pBin rfl rfl rfl rfl rfl) rfl (by decide) ?_
  refine oNil ?_
  refine aCondDec rfl (fun c11 => ?_) (fun c11 => ?_)
  · skip
    refine aSeq ?_
    refine aReg ?_
    refine oP rfl (by exact pMv (.inr rfl) rfl) rfl (by decide) ?_
    refine oNil ?_
    refine aRet ?_
    refine ⟨_, [], _, rfl, .nil, ?_, rfl⟩
    show AV.int 0 = AV.int _
    cases hx : idxI (fun x : Link => x.t == n) l.ls 0 with
    | none => rw [costL, idx_none hx]
    | some i => rw [hx] at c11; exact absurd c11 (by simp [idxV])
  · skip
    refine aSkip ?_
    refine aSeq ?_
    refine aReg ?_
    refine oP rfl (by first | exact pFldB rfl rfl fd_52_2 | exact pFldS rfl rfl fd_52_2) rfl (by decide) ?_
    refine oR rfl (by first | exact rLdS1 rfl rfl ty_50 rfl | exact rLdB1 rfl rfl (by repeat constructor) ty_50 rfl) rfl (by decide) ?_
    refine oP rfl (by exact pMv (.inl rfl) rfl) rfl (by decide) ?_
    obtain ⟨i, hi⟩ : ∃ i, idxI (fun x : Link => x.t == n) l.ls 0 = some i := by
      cases hx : idxI (fun x : Link => x.t == n) l.ls 0 with
      | none => rw [hx] at c11; exact absurd (show ((-1 : Int) < 0) by decide) c11
      | some i => exact ⟨i, rfl⟩
    obtain ⟨_, a, ha, hf⟩ := idx_some hi
    refine oP rfl (by exact pIdxS rfl rfl rfl es_50 (by rw [hi]; exact Int.natCast_nonneg _) (by rw [hi]; exact map_get (f := linkC) ha)) rfl (by decide) ?_
    refine oP rfl (by first | exact pFldB rfl rfl fd_54_1 | exact pFldS rfl rfl fd_54_1) rfl (by decide) ?_
    refine oR rfl (by first | exact rLdS1 rfl rfl ty_3 rfl | exact rLdB1 rfl rfl (by repeat constructor) ty_3 rfl) rfl (by decide) ?_
    refine oP rfl (by exact pMv (.inr rfl) rfl) rfl (by decide) ?_
    refine oNil ?_
    refine aRet ?_
    refine ⟨_, [], _, rfl, .nil, ?_, rfl⟩
    show AV.int _ = AV.int _
    rw [costL, hf]

end A
end Go.Proofs.Ytmkphhjlmhhokaa
