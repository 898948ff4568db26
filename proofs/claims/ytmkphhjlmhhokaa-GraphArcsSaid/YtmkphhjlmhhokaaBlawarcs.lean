/- What functions of the program compute: lawarcs -/
import Derived.Test.YtmkphhjlmhhokaaBparcs
import Derived.Test.YtmkphhjlmhhokaaProg
import Derived.KernelRfl
set_option linter.unusedVariables false
set_option linter.unusedSimpArgs false
namespace Go.Proofs.Ytmkphhjlmhhokaa
namespace A

def awakeDb : List Lsa := [⟨1, 1, [⟨2, 3⟩, ⟨4, 1⟩]⟩, ⟨2, 1, [⟨1, 5⟩]⟩]
theorem awake_arcs : arcsDb awakeDb = [⟨1, 2, 3⟩, ⟨2, 1, 5⟩] := by decide

/- waymarklaw24.awake -/
set_option maxRecDepth 100000 in
set_option maxHeartbeats 400000 in
theorem law24_awake  : Triple Try.prog 11 [] [] (fun r h' => r = .v (.bool true) ∧ h' = []) := by
  refine triple_of Try.func11 rfl (by kernel_rfl) rfl (by simp) ?_
  refine aSeq ?_
  refine aReg ?_
  refine oP rfl (by exact pMv (.inr rfl) rfl) rfl (by decide) ?_
  refine oNil ?_
  refine aSeq ?_
  refine aReg ?_
  refine oP rfl (by exact pBuild rfl st_54 ze_54 rfl rfl rfl rfl) rfl (by decide) ?_
  refine oP rfl (by exact pBuild rfl st_54 ze_54 rfl rfl rfl rfl) rfl (by decide) ?_
  refine oQ rfl ?_
  refine qLit (l := [_, _]) rfl rfl (by decide) us_50 ty_54 ze_54 rfl (by decide) (by decide) rfl rfl rfl (fun b5 => ?_)
  refine oP rfl (by exact pBuild rfl st_52 ze_52 rfl rfl rfl rfl) rfl (by decide) ?_
  refine oP rfl (by exact pBuild rfl st_54 ze_54 rfl rfl rfl rfl) rfl (by decide) ?_
  refine oQ rfl ?_
  refine qLit (l := [_]) rfl rfl (by decide) us_50 ty_54 ze_54 rfl (by decide) (by decide) rfl rfl rfl (fun b8 => ?_)
  refine oP rfl (by exact pBuild rfl st_52 ze_52 rfl rfl rfl rfl) rfl (by decide) ?_
  refine oQ rfl ?_
  refine qLit (l := [_, _]) rfl rfl (by decide) us_29 ty_52 ze_52 rfl (by decide) (by decide) rfl rfl rfl (fun b10 => ?_)
  refine oP rfl (by exact pMv (.inr rfl) rfl) rfl (by decide) ?_
  refine oNil ?_
  refine aSeq ?_
  refine aWeak (weak_deep (k := 1) (b := .sl 3 (awakeDb.map lsaC)) rfl (.cons .hd (.cons .hd (.cons .hd .nil))) (by repeat constructor)) ?_
  refine aReg ?_
  refine oP rfl (by exact pMv (.inl rfl) rfl) rfl (by decide) ?_
  refine oA rfl ?_
  refine aCall rfl rfl (by decide) rfl rfl .nil (graph_Arcs awakeDb (by decide)) ?_
  rintro _ _ ⟨g12, k12, rfl, rfl⟩
  rw [awake_arcs]
  refine oWeak (weak_settle (k := 12) rfl .hd rfl) ?_
  refine oP rfl (by exact pMv (.inr rfl) rfl) rfl (by decide) ?_
  refine oNil ?_
  refine aSeq ?_
  refine aReg ?_
  refine oP rfl (by exact pMv (.inl rfl) rfl) rfl (by decide) ?_
  refine oP rfl (by exact pLenS' (n := 2) (pLenS rfl rfl sl_31) rfl) rfl (by decide) ?_
  refine oP rfl (by exact pBin rfl rfl rfl rfl (rfl : _ = Value.bool true)) rfl (by decide) ?_
  refine oP rfl (by exact pMv (.inl rfl) rfl) rfl (by decide) ?_
  refine oGP rfl rfl rfl rfl (by exact pMv (.inl rfl) rfl) rfl (by decide) ?_
  refine oGP rfl rfl rfl rfl (by exact pIdxS rfl rfl rfl es_31 (by decide) rfl) rfl (by decide) ?_
  refine oGR rfl rfl rfl rfl (by first | exact rLdSA rfl rfl ty_34 (Nat.le_of_ble_eq_true rfl) | exact rLdBA rfl rfl (by repeat constructor) ty_34 (Nat.le_of_ble_eq_true rfl)) rfl (by decide) ?_
  refine oGP rfl rfl rfl rfl (by exact pBuild rfl st_34 ze_34 rfl rfl rfl rfl) rfl (by decide) ?_
  refine oGP rfl rfl rfl rfl (by exact pEqA rfl (.inl rfl) rfl rfl eq_34 rfl (rfl : _ = true)) rfl (by decide) ?_
  refine oP rfl (by exact pPick rfl rfl rfl) rfl (by decide) ?_
  refine oP rfl (by exact pMv (.inl rfl) rfl) rfl (by decide) ?_
  refine oGP rfl rfl rfl rfl (by exact pMv (.inl rfl) rfl) rfl (by decide) ?_
  refine oGP rfl rfl rfl rfl (by exact pIdxS rfl rfl rfl es_31 (by decide) rfl) rfl (by decide) ?_
  refine oGR rfl rfl rfl rfl (by first | exact rLdSA rfl rfl ty_34 (Nat.le_of_ble_eq_true rfl) | exact rLdBA rfl rfl (by repeat constructor) ty_34 (Nat.le_of_ble_eq_true rfl)) rfl (by decide) ?_
  refine oGP rfl rfl rfl rfl (by exact pBuild rfl st_34 ze_34 rfl rfl rfl rfl) rfl (by decide) ?_
  refine oGP rfl rfl rfl rfl (by exact pEqA rfl (.inl rfl) rfl rfl eq_34 rfl (rfl : _ = true)) rfl (by decide) ?_
  refine oP rfl (by exact pPick rfl rfl rfl) rfl (by decide) ?_
  refine oP rfl (by exact pMv (.inr rfl) rfl) rfl (by decide) ?_
  refine oNil ?_
  refine aRet ?_
  refine ⟨_, [], _, rfl, .nil, rfl, rfl⟩

/- waymarklaw24.GraphArcs -/
def law24_GraphArcs_r13_T : Bool × List (List Nat × List Nat) := (true, [([], []), ([0], [0]), ([1], [1]), ([1], [1]), ([2, 3, 1], [1, 2, 3]), ([4, 1], [1, 4]), ([5, 1], [1, 5]), ([1], [1]), ([1], [1]), ([7, 8, 1], [1, 7, 8]), ([9, 1], [1, 9]), ([10, 1], [1, 10]), ([6, 11, 1], [1, 6, 11]), ([12, 1, 1], [1, 12]), ([13], [13]), ([13], [13]), ([14, 15, 13], [13, 14, 15]), ([16, 13], [13, 16]), ([17, 13], [13, 17]), ([13], [13]), ([13], [13]), ([19, 20, 13], [13, 19, 20]), ([21, 13], [13, 21]), ([22, 13], [13, 22]), ([18, 23, 13], [13, 18, 23]), ([13, 24, 1], [1, 13, 24]), ([1, 25], [1, 25]), ([26, 13, 0, 1, 2, 3, 4, 5, 6, 7, 8, 9, 10, 11, 12, 13, 14, 15, 16, 17, 18, 19, 20, 21, 22, 23, 24, 25, 26], [0, 26])])
def law24_GraphArcs_r13_B : List Nat := [0, 1, 3, 3, 15, 31, 63, 3, 3, 387, 899, 1923, 4095, 8191, 16383, 16383, 65535, 131071, 262143, 16383, 16383, 1589247, 3686399, 7880703, 16777215, 33554431, 67108863, 134217727]
theorem law24_GraphArcs_r13_t : Go.Proofs.YtmkphhjlmhhokaaW.PrintLast.rtab .any (Go.Proofs.YtmkphhjlmhhokaaW.PrintLast.opsOf Try.f4 13) = law24_GraphArcs_r13_T := by kernel_rfl
theorem law24_GraphArcs_r13_b : Go.Proofs.YtmkphhjlmhhokaaW.PrintLast.waitsOk law24_GraphArcs_r13_T.2 law24_GraphArcs_r13_B = true := by kernel_rfl
set_option maxRecDepth 100000 in
set_option maxHeartbeats 1000000 in
theorem law24_GraphArcs (db : List Lsa) : Triple Try.prog 4 [AV.sl 3 (db.map lsaC)] [] (fun r h' => r = .v (.bool true) ∧ h' = []) := by
  refine triple_of Try.func4 rfl (by kernel_rfl) rfl (by simp) ?_
  refine aSeq ?_
  refine aReg ?_
  refine oP rfl (by exact pMv (.inr rfl) rfl) rfl (by decide) ?_
  refine oNil ?_
  refine aSeq ?_
  refine aSeq ?_
  refine aReg ?_
  refine oP rfl (by exact pMv (.inl rfl) rfl) rfl (by decide) ?_
  refine oQ rfl ?_
  refine qCallV rfl rfl (by decide) rfl rfl (lents_refl _) (law19_Light db) ?_
  refine oP rfl (by exact pNot rfl rfl) rfl (by decide) ?_
  refine oNil ?_
  refine aCondNot rfl (fun c9 => ?_) (fun c9 => ?_)
  · skip
    refine aSeq ?_
    refine aReg ?_
    refine oQ rfl ?_
    refine qCallV rfl rfl (by decide) rfl rfl (lents_refl _) law24_awake ?_
    refine oP rfl (by exact pMv (.inr rfl) rfl) rfl (by decide) ?_
    refine oNil ?_
    refine aRet ?_
    refine ⟨_, [], _, rfl, .nil, rfl, rfl⟩
  · skip
    refine aSkip ?_
    refine aSeq ?_
    have hl := light_len c9
    have hm : ∀ x ∈ db, x.ls.length ≤ 40 := fun x hx => light_mem c9 hx
    have hA := arcs_len hl hm
    refine aReg ?_
    refine oP rfl (by exact pMv (.inl rfl) rfl) rfl (by decide) ?_
    refine oA rfl ?_
    refine aCall rfl rfl (by decide) rfl rfl .nil (graph_Arcs db (by omega)) ?_
    rintro _ _ ⟨g12, k12, rfl, rfl⟩
    refine oWeak (weak_settle (k := 12) rfl .hd (by simp)) ?_
    refine oP rfl (by exact pMv (.inr rfl) rfl) rfl (by decide) ?_
    refine oNil ?_
    refine aSeq ?_
    refine aSeq ?_
    refine aReg ?_
    refine oP rfl (by exact pMv (.inl rfl) rfl) rfl (by decide) ?_
    refine oQ rfl ?_
    refine qCallV rfl rfl (by decide) rfl rfl (lents_refl _) (ref19_May db (by omega) (fun x hx => by have := hm x hx; omega)) ?_
    refine oP rfl (by exact pNot rfl rfl) rfl (by decide) ?_
    refine oNil ?_
    refine aCondNot rfl (fun c15 => ?_) (fun c15 => ?_)
    · skip
      refine aSeq ?_
      refine aReg ?_
      refine oP rfl (by exact pMv (.inl rfl) rfl) rfl (by decide) ?_
      refine oP rfl (by exact pLenS' (n := 0) (pLenS rfl rfl sl_31) (by rw [arcsDb, if_neg (by rw [c15]; decide)]; rfl)) rfl (by decide) ?_
      refine oP rfl (by exact pBin rfl rfl rfl rfl (rfl : _ = Value.bool true)) rfl (by decide) ?_
      refine oP rfl (by exact pMv (.inl rfl) rfl) rfl (by decide) ?_
      refine oGT rfl rfl rfl rfl ?_
      refine (qCallV rfl rfl (by decide) rfl rfl (lents_refl _) law24_awake ?_).op
      refine oP rfl (by exact pPick rfl rfl rfl) rfl (by decide) ?_
      refine oP rfl (by exact pMv (.inr rfl) rfl) rfl (by decide) ?_
      refine oNil ?_
      refine aRet ?_
      refine ⟨_, [], _, rfl, .nil, rfl, rfl⟩
    · skip
      refine aSkip ?_
      refine aSeq ?_
      refine aSeq ?_
      refine aReg ?_
      refine oP rfl (by exact pMv (.inr rfl) rfl) rfl (by decide) ?_
      refine oNil ?_
      refine aBlock ?_
      refine aLoopI (α := Nat) (fun i => i ≤ (arcsDb db).length) (fun i => ([(0, AV.sl 3 (db.map lsaC)), (3, AV.sl 3 ((arcsDb db).map arcC)), (4, .int i)], [])) (fun i => (arcsDb db).length - i) 0 ?_ ?_ ?_
      · skip
        omega
      · skip
        exact weak_sub ⟨rfl, rfl, gInt rfl (by simp), trivial⟩ .nil
      · rintro i hi
        skip
        refine aSeq ?_
        refine aSeq ?_
        refine aReg ?_
        refine oP rfl (by exact pMv (.inl rfl) rfl) rfl (by decide) ?_
        refine oP rfl (by exact pMv (.inl rfl) rfl) rfl (by decide) ?_
        refine oP rfl (by first | exact pLenS' (pLenS rfl rfl sl_31) (List.length_map _) | exact pLenS rfl rfl sl_31 | exact pLenV rfl rfl sl_31) rfl (by decide) ?_
        refine oP rfl (by exact pBin rfl rfl rfl rfl rfl) rfl (by decide) ?_
        refine oNil ?_
        refine aCondDec rfl (fun c25 => ?_) (fun c25 => ?_)
        · skip
          refine aSkip ?_
          refine aSeq ?_
          refine aBlock ?_
          refine aSeq ?_
          refine aReg ?_
          refine oP rfl (by exact pMv (.inr rfl) rfl) rfl (by decide) ?_
          refine oNil ?_
          refine aSeq ?_
          refine aSeq ?_
          refine aReg ?_
          refine oP rfl (by exact pMv (.inr rfl) rfl) rfl (by decide) ?_
          refine oNil ?_
          refine aBlock ?_
          obtain ⟨a, ha⟩ : ∃ a, (arcsDb db)[i]? = some a := ⟨_, List.getElem?_eq_getElem (by omega)⟩
          refine aLoopI (α := Nat × Bool) (fun (k, back) => k ≤ (arcsDb db).length ∧ back = ((arcsDb db).take k).any (backP a)) (fun (k, back) => ([(0, AV.sl 3 (db.map lsaC)), (3, AV.sl 3 ((arcsDb db).map arcC)), (4, .int i), (5, .v (.bool back)), (6, .int k)], [])) (fun (k, back) => (arcsDb db).length - k) (0, false) ?_ ?_ ?_
          · skip
            exact ⟨by omega, rfl⟩
          · skip
            exact weak_sub ⟨rfl, rfl, rfl, rfl, gInt rfl (by simp), trivial⟩ .nil
          · rintro ⟨k, back⟩ ⟨hk, hv⟩
            skip
            refine aSeq ?_
            refine aSeq ?_
            refine aReg ?_
            refine oP rfl (by exact pMv (.inl rfl) rfl) rfl (by decide) ?_
            refine oP rfl (by exact pMv (.inl rfl) rfl) rfl (by decide) ?_
            refine oP rfl (by first | exact pLenS' (pLenS rfl rfl sl_31) (List.length_map _) | exact pLenS rfl rfl sl_31 | exact pLenV rfl rfl sl_31) rfl (by decide) ?_
            refine oP rfl (by exact pBin rfl rfl rfl rfl rfl) rfl (by decide) ?_
            refine oNil ?_
            refine aCondDec rfl (fun c31 => ?_) (fun c31 => ?_)
            · skip
              refine aSkip ?_
              refine aSeq ?_
              refine aBlock ?_
              obtain ⟨b, hb⟩ : ∃ b, (arcsDb db)[k]? = some b := ⟨_, List.getElem?_eq_getElem (by omega)⟩
              refine aDrawT law24_GraphArcs_r13_t law24_GraphArcs_r13_b [] 28 #[false, false, false, false, false, false, false, false, false, false, false, false, false, false, false, false, false, false, false, false, false, false, false, false, false, false, false, false] (by kernel_rfl) rfl rfl (fun HT => ?_)
              refine dPure (i := 0) #[true, false, false, false, false, false, false, false, false, false, false, false, false, false, false, false, false, false, false, false, false, false, false, false, false, false, false, false] rfl rfl rfl (HT.any (by kernel_rfl)) (by exact pMv (.inl rfl) rfl) (by decide) ?_
              refine dPure (i := 1) #[true, true, false, false, false, false, false, false, false, false, false, false, false, false, false, false, false, false, false, false, false, false, false, false, false, false, false, false] rfl rfl rfl (HT.any (by kernel_rfl)) (by exact pMv (.inl rfl) rfl) (by decide) ?_
              refine dSplit 35 rfl (fun c35 => ?_) (fun c35 => ?_)
              · skip
                refine dSkip (i := 2) #[true, true, true, false, false, false, false, false, false, false, false, false, false, false, false, false, false, false, false, false, false, false, false, false, false, false, false, false] rfl rfl rfl rfl rfl rfl (HT.any (by kernel_rfl)) (by decide) ?_
                refine dSkip (i := 3) #[true, true, true, true, false, false, false, false, false, false, false, false, false, false, false, false, false, false, false, false, false, false, false, false, false, false, false, false] rfl rfl rfl rfl rfl rfl (HT.any (by kernel_rfl)) (by decide) ?_
                refine dSkip (i := 4) #[true, true, true, true, true, false, false, false, false, false, false, false, false, false, false, false, false, false, false, false, false, false, false, false, false, false, false, false] rfl rfl rfl rfl rfl rfl (HT.any (by kernel_rfl)) (by decide) ?_
                refine dSkip (i := 5) #[true, true, true, true, true, true, false, false, false, false, false, false, false, false, false, false, false, false, false, false, false, false, false, false, false, false, false, false] rfl rfl rfl rfl rfl rfl (HT.any (by kernel_rfl)) (by decide) ?_
                refine dSkip (i := 6) #[true, true, true, true, true, true, true, false, false, false, false, false, false, false, false, false, false, false, false, false, false, false, false, false, false, false, false, false] rfl rfl rfl rfl rfl rfl (HT.any (by kernel_rfl)) (by decide) ?_
                refine dSkip (i := 7) #[true, true, true, true, true, true, true, true, false, false, false, false, false, false, false, false, false, false, false, false, false, false, false, false, false, false, false, false] rfl rfl rfl rfl rfl rfl (HT.any (by kernel_rfl)) (by decide) ?_
                refine dSkip (i := 8) #[true, true, true, true, true, true, true, true, true, false, false, false, false, false, false, false, false, false, false, false, false, false, false, false, false, false, false, false] rfl rfl rfl rfl rfl rfl (HT.any (by kernel_rfl)) (by decide) ?_
                refine dSkip (i := 9) #[true, true, true, true, true, true, true, true, true, true, false, false, false, false, false, false, false, false, false, false, false, false, false, false, false, false, false, false] rfl rfl rfl rfl rfl rfl (HT.any (by kernel_rfl)) (by decide) ?_
                refine dSkip (i := 10) #[true, true, true, true, true, true, true, true, true, true, true, false, false, false, false, false, false, false, false, false, false, false, false, false, false, false, false, false] rfl rfl rfl rfl rfl rfl (HT.any (by kernel_rfl)) (by decide) ?_
                refine dSkip (i := 11) #[true, true, true, true, true, true, true, true, true, true, true, true, false, false, false, false, false, false, false, false, false, false, false, false, false, false, false, false] rfl rfl rfl rfl rfl rfl (HT.any (by kernel_rfl)) (by decide) ?_
                refine dSkip (i := 12) #[true, true, true, true, true, true, true, true, true, true, true, true, true, false, false, false, false, false, false, false, false, false, false, false, false, false, false, false] rfl rfl rfl rfl rfl rfl (HT.any (by kernel_rfl)) (by decide) ?_
                refine dSkip (i := 13) #[true, true, true, true, true, true, true, true, true, true, true, true, true, true, false, false, false, false, false, false, false, false, false, false, false, false, false, false] rfl rfl rfl rfl rfl rfl (HT.any (by kernel_rfl)) (by decide) ?_
                refine dSkip (i := 14) #[true, true, true, true, true, true, true, true, true, true, true, true, true, true, true, false, false, false, false, false, false, false, false, false, false, false, false, false] rfl rfl rfl rfl rfl rfl (HT.any (by kernel_rfl)) (by decide) ?_
                refine dSkip (i := 15) #[true, true, true, true, true, true, true, true, true, true, true, true, true, true, true, true, false, false, false, false, false, false, false, false, false, false, false, false] rfl rfl rfl rfl rfl rfl (HT.any (by kernel_rfl)) (by decide) ?_
                refine dSkip (i := 16) #[true, true, true, true, true, true, true, true, true, true, true, true, true, true, true, true, true, false, false, false, false, false, false, false, false, false, false, false] rfl rfl rfl rfl rfl rfl (HT.any (by kernel_rfl)) (by decide) ?_
                refine dSkip (i := 17) #[true, true, true, true, true, true, true, true, true, true, true, true, true, true, true, true, true, true, false, false, false, false, false, false, false, false, false, false] rfl rfl rfl rfl rfl rfl (HT.any (by kernel_rfl)) (by decide) ?_
                refine dSkip (i := 18) #[true, true, true, true, true, true, true, true, true, true, true, true, true, true, true, true, true, true, true, false, false, false, false, false, false, false, false, false] rfl rfl rfl rfl rfl rfl (HT.any (by kernel_rfl)) (by decide) ?_
                refine dSkip (i := 19) #[true, true, true, true, true, true, true, true, true, true, true, true, true, true, true, true, true, true, true, true, false, false, false, false, false, false, false, false] rfl rfl rfl rfl rfl rfl (HT.any (by kernel_rfl)) (by decide) ?_
                refine dSkip (i := 20) #[true, true, true, true, true, true, true, true, true, true, true, true, true, true, true, true, true, true, true, true, true, false, false, false, false, false, false, false] rfl rfl rfl rfl rfl rfl (HT.any (by kernel_rfl)) (by decide) ?_
                refine dSkip (i := 21) #[true, true, true, true, true, true, true, true, true, true, true, true, true, true, true, true, true, true, true, true, true, true, false, false, false, false, false, false] rfl rfl rfl rfl rfl rfl (HT.any (by kernel_rfl)) (by decide) ?_
                refine dSkip (i := 22) #[true, true, true, true, true, true, true, true, true, true, true, true, true, true, true, true, true, true, true, true, true, true, true, false, false, false, false, false] rfl rfl rfl rfl rfl rfl (HT.any (by kernel_rfl)) (by decide) ?_
                refine dSkip (i := 23) #[true, true, true, true, true, true, true, true, true, true, true, true, true, true, true, true, true, true, true, true, true, true, true, true, false, false, false, false] rfl rfl rfl rfl rfl rfl (HT.any (by kernel_rfl)) (by decide) ?_
                refine dSkip (i := 24) #[true, true, true, true, true, true, true, true, true, true, true, true, true, true, true, true, true, true, true, true, true, true, true, true, true, false, false, false] rfl rfl rfl rfl rfl rfl (HT.any (by kernel_rfl)) (by decide) ?_
                refine dSkip (i := 25) #[true, true, true, true, true, true, true, true, true, true, true, true, true, true, true, true, true, true, true, true, true, true, true, true, true, true, false, false] rfl rfl rfl rfl rfl rfl (HT.any (by kernel_rfl)) (by decide) ?_
                refine dPure (i := 26) #[true, true, true, true, true, true, true, true, true, true, true, true, true, true, true, true, true, true, true, true, true, true, true, true, true, true, true, false] rfl rfl rfl (HT.any (by kernel_rfl)) (by exact pPick rfl rfl rfl) (by decide) ?_
                refine dPure (i := 27) #[true, true, true, true, true, true, true, true, true, true, true, true, true, true, true, true, true, true, true, true, true, true, true, true, true, true, true, true] rfl rfl rfl (HT.any (by kernel_rfl)) (by exact pMv (.inr rfl) rfl) (by decide) ?_
                refine dEnd (HT.done (by kernel_rfl)) ?_
                clear HT
                refine aReg ?_
                refine oP rfl (by exact pMv (.inl rfl) rfl) rfl (by decide) ?_
                refine oP rfl (by exact pAdd rfl rfl rfl (by omega) (by omega)) rfl (by decide) ?_
                refine oP rfl (by exact pMv (.inr rfl) rfl) rfl (by decide) ?_
                refine oNil ?_
                refine ⟨(k + 1, _), ⟨by omega, ?_⟩, by show (arcsDb db).length - (k + 1) < (arcsDb db).length - k; omega, weak_sub ⟨rfl, rfl, rfl, rfl, gInt rfl (by simp), trivial⟩ .nil⟩
                rw [any_take (p := backP a) hb, ← hv]
                clear hv
                simp_all [backP]
              · skip
                refine dPureG (i := 2) #[true, true, true, false, false, false, false, false, false, false, false, false, false, false, false, false, false, false, false, false, false, false, false, false, false, false, false, false] rfl rfl rfl rfl rfl rfl (HT.any (by kernel_rfl)) (by exact pMv (.inl rfl) rfl) (by decide) ?_
                refine dPureG (i := 3) #[true, true, true, true, false, false, false, false, false, false, false, false, false, false, false, false, false, false, false, false, false, false, false, false, false, false, false, false] rfl rfl rfl rfl rfl rfl (HT.any (by kernel_rfl)) (by exact pMv (.inl rfl) rfl) (by decide) ?_
                refine dPureG (i := 4) #[true, true, true, true, true, false, false, false, false, false, false, false, false, false, false, false, false, false, false, false, false, false, false, false, false, false, false, false] rfl rfl rfl rfl rfl rfl (HT.any (by kernel_rfl)) (by exact pIdxS rfl rfl rfl es_31 (by omega) (map_get (f := arcC) hb)) (by decide) ?_
                refine dPureG (i := 5) #[true, true, true, true, true, true, false, false, false, false, false, false, false, false, false, false, false, false, false, false, false, false, false, false, false, false, false, false] rfl rfl rfl rfl rfl rfl (HT.any (by kernel_rfl)) (by first | exact pFldB rfl rfl fd_34_0 | exact pFldS rfl rfl fd_34_0) (by decide) ?_
                refine dTakeG (i := 6) #[true, true, true, true, true, true, true, false, false, false, false, false, false, false, false, false, false, false, false, false, false, false, false, false, false, false, false, false] rfl rfl rfl rfl rfl rfl (HT.take (by kernel_rfl)) (by first | exact rLdS1 rfl rfl ty_3 rfl | exact rLdB1 rfl rfl (by repeat constructor) ty_3 rfl) (by decide) ?_
                refine dPureG (i := 7) #[true, true, true, true, true, true, true, true, false, false, false, false, false, false, false, false, false, false, false, false, false, false, false, false, false, false, false, false] rfl rfl rfl rfl rfl rfl (HT.any (by kernel_rfl)) (by exact pMv (.inl rfl) rfl) (by decide) ?_
                refine dPureG (i := 8) #[true, true, true, true, true, true, true, true, true, false, false, false, false, false, false, false, false, false, false, false, false, false, false, false, false, false, false, false] rfl rfl rfl rfl rfl rfl (HT.any (by kernel_rfl)) (by exact pMv (.inl rfl) rfl) (by decide) ?_
                refine dPureG (i := 9) #[true, true, true, true, true, true, true, true, true, true, false, false, false, false, false, false, false, false, false, false, false, false, false, false, false, false, false, false] rfl rfl rfl rfl rfl rfl (HT.any (by kernel_rfl)) (by exact pIdxS rfl rfl rfl es_31 (by omega) (map_get (f := arcC) ha)) (by decide) ?_
                refine dPureG (i := 10) #[true, true, true, true, true, true, true, true, true, true, true, false, false, false, false, false, false, false, false, false, false, false, false, false, false, false, false, false] rfl rfl rfl rfl rfl rfl (HT.any (by kernel_rfl)) (by first | exact pFldB rfl rfl fd_34_1 | exact pFldS rfl rfl fd_34_1) (by decide) ?_
                refine dTakeG (i := 11) #[true, true, true, true, true, true, true, true, true, true, true, true, false, false, false, false, false, false, false, false, false, false, false, false, false, false, false, false] rfl rfl rfl rfl rfl rfl (HT.take (by kernel_rfl)) (by first | exact rLdS1 rfl rfl ty_3 rfl | exact rLdB1 rfl rfl (by repeat constructor) ty_3 rfl) (by decide) ?_
                refine dPureG (i := 12) #[true, true, true, true, true, true, true, true, true, true, true, true, true, false, false, false, false, false, false, false, false, false, false, false, false, false, false, false] rfl rfl rfl rfl rfl rfl (HT.any (by kernel_rfl)) (by exact pBin rfl rfl rfl rfl rfl) (by decide) ?_
                refine dPureG (i := 13) #[true, true, true, true, true, true, true, true, true, true, true, true, true, true, false, false, false, false, false, false, false, false, false, false, false, false, false, false] rfl rfl rfl rfl rfl rfl (HT.any (by kernel_rfl)) (by exact pMv (.inl rfl) rfl) (by decide) ?_
                refine dSplitEq 47 rfl (fun c47 => ?_) (fun c47 => ?_)
                · skip
                  refine dPureG (i := 14) #[true, true, true, true, true, true, true, true, true, true, true, true, true, true, true, false, false, false, false, false, false, false, false, false, false, false, false, false] rfl rfl rfl rfl rfl rfl (HT.any (by kernel_rfl)) (by exact pMv (.inl rfl) rfl) (by decide) ?_
                  refine dPureG (i := 15) #[true, true, true, true, true, true, true, true, true, true, true, true, true, true, true, true, false, false, false, false, false, false, false, false, false, false, false, false] rfl rfl rfl rfl rfl rfl (HT.any (by kernel_rfl)) (by exact pMv (.inl rfl) rfl) (by decide) ?_
                  refine dPureG (i := 16) #[true, true, true, true, true, true, true, true, true, true, true, true, true, true, true, true, true, false, false, false, false, false, false, false, false, false, false, false] rfl rfl rfl rfl rfl rfl (HT.any (by kernel_rfl)) (by exact pIdxS rfl rfl rfl es_31 (by omega) (map_get (f := arcC) hb)) (by decide) ?_
                  refine dPureG (i := 17) #[true, true, true, true, true, true, true, true, true, true, true, true, true, true, true, true, true, true, false, false, false, false, false, false, false, false, false, false] rfl rfl rfl rfl rfl rfl (HT.any (by kernel_rfl)) (by first | exact pFldB rfl rfl fd_34_1 | exact pFldS rfl rfl fd_34_1) (by decide) ?_
                  refine dTakeG (i := 18) #[true, true, true, true, true, true, true, true, true, true, true, true, true, true, true, true, true, true, true, false, false, false, false, false, false, false, false, false] rfl rfl rfl rfl rfl rfl (HT.take (by kernel_rfl)) (by first | exact rLdS1 rfl rfl ty_3 rfl | exact rLdB1 rfl rfl (by repeat constructor) ty_3 rfl) (by decide) ?_
                  refine dPureG (i := 19) #[true, true, true, true, true, true, true, true, true, true, true, true, true, true, true, true, true, true, true, true, false, false, false, false, false, false, false, false] rfl rfl rfl rfl rfl rfl (HT.any (by kernel_rfl)) (by exact pMv (.inl rfl) rfl) (by decide) ?_
                  refine dPureG (i := 20) #[true, true, true, true, true, true, true, true, true, true, true, true, true, true, true, true, true, true, true, true, true, false, false, false, false, false, false, false] rfl rfl rfl rfl rfl rfl (HT.any (by kernel_rfl)) (by exact pMv (.inl rfl) rfl) (by decide) ?_
                  refine dPureG (i := 21) #[true, true, true, true, true, true, true, true, true, true, true, true, true, true, true, true, true, true, true, true, true, true, false, false, false, false, false, false] rfl rfl rfl rfl rfl rfl (HT.any (by kernel_rfl)) (by exact pIdxS rfl rfl rfl es_31 (by omega) (map_get (f := arcC) ha)) (by decide) ?_
                  refine dPureG (i := 22) #[true, true, true, true, true, true, true, true, true, true, true, true, true, true, true, true, true, true, true, true, true, true, true, false, false, false, false, false] rfl rfl rfl rfl rfl rfl (HT.any (by kernel_rfl)) (by first | exact pFldB rfl rfl fd_34_0 | exact pFldS rfl rfl fd_34_0) (by decide) ?_
                  refine dTakeG (i := 23) #[true, true, true, true, true, true, true, true, true, true, true, true, true, true, true, true, true, true, true, true, true, true, true, true, false, false, false, false] rfl rfl rfl rfl rfl rfl (HT.take (by kernel_rfl)) (by first | exact rLdS1 rfl rfl ty_3 rfl | exact rLdB1 rfl rfl (by repeat constructor) ty_3 rfl) (by decide) ?_
                  refine dPureG (i := 24) #[true, true, true, true, true, true, true, true, true, true, true, true, true, true, true, true, true, true, true, true, true, true, true, true, true, false, false, false] rfl rfl rfl rfl rfl rfl (HT.any (by kernel_rfl)) (by exact pBin rfl rfl rfl rfl rfl) (by decide) ?_
                  refine dPureG (i := 25) #[true, true, true, true, true, true, true, true, true, true, true, true, true, true, true, true, true, true, true, true, true, true, true, true, true, true, false, false] rfl rfl rfl rfl rfl rfl (HT.any (by kernel_rfl)) (by exact pPick rfl rfl rfl) (by decide) ?_
                  refine dPure (i := 26) #[true, true, true, true, true, true, true, true, true, true, true, true, true, true, true, true, true, true, true, true, true, true, true, true, true, true, true, false] rfl rfl rfl (HT.any (by kernel_rfl)) (by exact pPick rfl rfl rfl) (by decide) ?_
                  refine dPure (i := 27) #[true, true, true, true, true, true, true, true, true, true, true, true, true, true, true, true, true, true, true, true, true, true, true, true, true, true, true, true] rfl rfl rfl (HT.any (by kernel_rfl)) (by exact pMv (.inr rfl) rfl) (by decide) ?_
                  refine dEnd (HT.done (by kernel_rfl)) ?_
                  clear HT
                  refine aReg ?_
                  refine oP rfl (by exact pMv (.inl rfl) rfl) rfl (by decide) ?_
                  refine oP rfl (by exact pAdd rfl rfl rfl (by omega) (by omega)) rfl (by decide) ?_
                  refine oP rfl (by exact pMv (.inr rfl) rfl) rfl (by decide) ?_
                  refine oNil ?_
                  refine ⟨(k + 1, _), ⟨by omega, ?_⟩, by show (arcsDb db).length - (k + 1) < (arcsDb db).length - k; omega, weak_sub ⟨rfl, rfl, rfl, rfl, gInt rfl (by simp), trivial⟩ .nil⟩
                  rw [any_take (p := backP a) hb, ← hv]
                  clear hv
                  simp_all [backP]
                · skip
                  refine dSkip (i := 14) #[true, true, true, true, true, true, true, true, true, true, true, true, true, true, true, false, false, false, false, false, false, false, false, false, false, false, false, false] rfl rfl rfl rfl rfl rfl (HT.any (by kernel_rfl)) (by decide) ?_
                  refine dSkip (i := 15) #[true, true, true, true, true, true, true, true, true, true, true, true, true, true, true, true, false, false, false, false, false, false, false, false, false, false, false, false] rfl rfl rfl rfl rfl rfl (HT.any (by kernel_rfl)) (by decide) ?_
                  refine dSkip (i := 16) #[true, true, true, true, true, true, true, true, true, true, true, true, true, true, true, true, true, false, false, false, false, false, false, false, false, false, false, false] rfl rfl rfl rfl rfl rfl (HT.any (by kernel_rfl)) (by decide) ?_
                  refine dSkip (i := 17) #[true, true, true, true, true, true, true, true, true, true, true, true, true, true, true, true, true, true, false, false, false, false, false, false, false, false, false, false] rfl rfl rfl rfl rfl rfl (HT.any (by kernel_rfl)) (by decide) ?_
                  refine dSkip (i := 18) #[true, true, true, true, true, true, true, true, true, true, true, true, true, true, true, true, true, true, true, false, false, false, false, false, false, false, false, false] rfl rfl rfl rfl rfl rfl (HT.any (by kernel_rfl)) (by decide) ?_
                  refine dSkip (i := 19) #[true, true, true, true, true, true, true, true, true, true, true, true, true, true, true, true, true, true, true, true, false, false, false, false, false, false, false, false] rfl rfl rfl rfl rfl rfl (HT.any (by kernel_rfl)) (by decide) ?_
                  refine dSkip (i := 20) #[true, true, true, true, true, true, true, true, true, true, true, true, true, true, true, true, true, true, true, true, true, false, false, false, false, false, false, false] rfl rfl rfl rfl rfl rfl (HT.any (by kernel_rfl)) (by decide) ?_
                  refine dSkip (i := 21) #[true, true, true, true, true, true, true, true, true, true, true, true, true, true, true, true, true, true, true, true, true, true, false, false, false, false, false, false] rfl rfl rfl rfl rfl rfl (HT.any (by kernel_rfl)) (by decide) ?_
                  refine dSkip (i := 22) #[true, true, true, true, true, true, true, true, true, true, true, true, true, true, true, true, true, true, true, true, true, true, true, false, false, false, false, false] rfl rfl rfl rfl rfl rfl (HT.any (by kernel_rfl)) (by decide) ?_
                  refine dSkip (i := 23) #[true, true, true, true, true, true, true, true, true, true, true, true, true, true, true, true, true, true, true, true, true, true, true, true, false, false, false, false] rfl rfl rfl rfl rfl rfl (HT.any (by kernel_rfl)) (by decide) ?_
                  refine dSkip (i := 24) #[true, true, true, true, true, true, true, true, true, true, true, true, true, true, true, true, true, true, true, true, true, true, true, true, true, false, false, false] rfl rfl rfl rfl rfl rfl (HT.any (by kernel_rfl)) (by decide) ?_
                  refine dPureG (i := 25) #[true, true, true, true, true, true, true, true, true, true, true, true, true, true, true, true, true, true, true, true, true, true, true, true, true, true, false, false] rfl rfl rfl rfl rfl rfl (HT.any (by kernel_rfl)) (by exact pPick rfl rfl rfl) (by decide) ?_
                  refine dPure (i := 26) #[true, true, true, true, true, true, true, true, true, true, true, true, true, true, true, true, true, true, true, true, true, true, true, true, true, true, true, false] rfl rfl rfl (HT.any (by kernel_rfl)) (by exact pPick rfl rfl rfl) (by decide) ?_
                  refine dPure (i := 27) #[true, true, true, true, true, true, true, true, true, true, true, true, true, true, true, true, true, true, true, true, true, true, true, true, true, true, true, true] rfl rfl rfl (HT.any (by kernel_rfl)) (by exact pMv (.inr rfl) rfl) (by decide) ?_
                  refine dEnd (HT.done (by kernel_rfl)) ?_
                  clear HT
                  refine aReg ?_
                  refine oP rfl (by exact pMv (.inl rfl) rfl) rfl (by decide) ?_
                  refine oP rfl (by exact pAdd rfl rfl rfl (by omega) (by omega)) rfl (by decide) ?_
                  refine oP rfl (by exact pMv (.inr rfl) rfl) rfl (by decide) ?_
                  refine oNil ?_
                  refine ⟨(k + 1, _), ⟨by omega, ?_⟩, by show (arcsDb db).length - (k + 1) < (arcsDb db).length - k; omega, weak_sub ⟨rfl, rfl, rfl, rfl, gInt rfl (by simp), trivial⟩ .nil⟩
                  rw [any_take (p := backP a) hb, ← hv]
                  clear hv
                  simp_all [backP]
            · skip
              refine aExit rfl ?_
              refine aSeq ?_
              refine aReg ?_
              refine oP rfl (by exact pMv (.inl rfl) rfl) rfl (by decide) ?_
              refine oP rfl (by exact pNot rfl rfl) rfl (by decide) ?_
              refine oNil ?_
              refine aCondNot rfl (fun c62 => ?_) (fun c62 => ?_)
              · skip
                refine aSeq ?_
                refine aReg ?_
                refine oP rfl (by exact pMv (.inr rfl) rfl) rfl (by decide) ?_
                refine oNil ?_
                refine aRet ?_
                exfalso
                rw [List.take_of_length_le (by omega)] at hv
                rw [arcs_any c15 (List.mem_of_getElem? ha), c62] at hv
                cases hv
              · skip
                refine aSkip ?_
                refine aReg ?_
                refine oP rfl (by exact pMv (.inl rfl) rfl) rfl (by decide) ?_
                refine oP rfl (by exact pAdd rfl rfl rfl (by omega) (by omega)) rfl (by decide) ?_
                refine oP rfl (by exact pMv (.inr rfl) rfl) rfl (by decide) ?_
                refine oNil ?_
                exact ⟨i + 1, by omega, by show (arcsDb db).length - (i + 1) < (arcsDb db).length - i; omega, weak_sub ⟨rfl, rfl, gInt rfl (by simp), trivial⟩ .nil⟩
        · skip
          refine aExit rfl ?_
          refine aSeq ?_
          refine aReg ?_
          refine oP rfl (by exact pMv (.inl rfl) rfl) rfl (by decide) ?_
          refine oP rfl (by exact pMv (.inl rfl) rfl) rfl (by decide) ?_
          refine oA rfl ?_
          refine aCall rfl rfl (by decide) rfl rfl .nil (ref24_Arcs db hl hm) ?_
          rintro _ _ ⟨g65, k65, rfl, rfl⟩
          refine oWeak (weak_settle (k := 65) rfl .hd (by simp)) ?_
          refine oQ rfl ?_
          refine qCallV rfl rfl (by decide) rfl rfl (lents_refl _) (ref24_Same (arcsDb db) (refAll db) (by omega) (by have := ref_len hl hm; omega)) ?_
          rw [show decide (arcsDb db = refAll db) = true by rw [arcsDb, if_pos c15, arcsAll_ref c15]; simp]
          refine oP rfl (by exact pMv (.inl rfl) rfl) rfl (by decide) ?_
          refine oGP rfl rfl rfl rfl (by exact pMv (.inl rfl) rfl) rfl (by decide) ?_
          refine oGT rfl rfl rfl rfl ?_
          refine (qCallV rfl rfl (by decide) rfl rfl (lents_refl _) (graph_Check (arcsDb db) (by omega)) ?_).op
          rw [show (if arcsB none (arcsDb db) = true then (0 : Int) else 1) = 0 by rw [arcsDb, if_pos c15, if_pos (arcsAll_ok c15)]]
          refine oGP rfl rfl rfl rfl (by exact pBin rfl rfl rfl rfl (rfl : _ = Value.bool true)) rfl (by decide) ?_
          refine oP rfl (by exact pPick rfl rfl rfl) rfl (by decide) ?_
          refine oP rfl (by exact pMv (.inl rfl) rfl) rfl (by decide) ?_
          refine oGT rfl rfl rfl rfl ?_
          refine (qCallV rfl rfl (by decide) rfl rfl (lents_refl _) law24_awake ?_).op
          refine oP rfl (by exact pPick rfl rfl rfl) rfl (by decide) ?_
          refine oP rfl (by exact pMv (.inr rfl) rfl) rfl (by decide) ?_
          refine oNil ?_
          refine aRet ?_
          refine ⟨_, [], _, rfl, .nil, rfl, rfl⟩

end A
end Go.Proofs.Ytmkphhjlmhhokaa
