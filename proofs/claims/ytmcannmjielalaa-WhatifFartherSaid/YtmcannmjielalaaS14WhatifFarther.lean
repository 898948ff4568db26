/- Whatever the input, waymarklaw45.WhatifFarther returns true, and each argument reads as it did. -/
import Derived.KernelRfl
import Derived.Test.YtmcannmjielalaaProg
import Derived.Test.YtmcannmjielalaaS13WhatifFarther
set_option linter.unusedVariables false
set_option linter.unusedSimpArgs false
namespace Go.Proofs.Ytmcannmjielalaa
namespace A
theorem eq_138 : eqType Try.prog 138 = some [(0, .i), (1, .i)] := by kernel_rfl
theorem es_104 : elemSize Try.prog 104 = some 3 := by kernel_rfl
theorem fd_73_0 : fieldOf Try.prog 73 0 = some (0, 1, false) := by kernel_rfl
theorem fd_73_1 : fieldOf Try.prog 73 1 = some (1, 1, false) := by kernel_rfl
theorem arcsDb_len (db : List Lsa) : (arcsDb db).length ≤ 4000 := by
  cases h : lsdbB 0 db with
  | true => exact dbArcs_len h
  | false => unfold arcsDb; rw [h]; simp
theorem noLink_len (db : List Lsa) (a b : Int) : (noLink db a b).length ≤ db.length := by
  unfold noLink
  split <;> simp
theorem noNode_len (db : List Lsa) (n : Int) : (noNode db n).length ≤ db.length := by
  unfold noNode
  split
  · exact List.length_filter_le _ _
  · simp
def lostN (db : List Lsa) (root : Int) (e : Ed) : Nat := (thoseM lostP (rtsDb db root) (rtsDb (noLink db e.a e.b) root) 64).length
def wStep (n : Ed → Nat) (s : Ed × Nat) (e : Ed) : Ed × Nat := if s.2 < n e then (e, n e) else s
def worstOf (n : Ed → Nat) (l : List Ed) : Ed × Nat := l.foldl (wStep n) (edZ, 0)
def worstM (db : List Lsa) (root : Int) : Ed × Nat := worstOf (lostN db root) (edgesM (arcsDb db))
theorem worst_step {n : Ed → Nat} {l : List Ed} {i : Nat} {e : Ed} (h : l[i]? = some e) : worstOf n (l.take (i + 1)) = wStep n (worstOf n (l.take i)) e := by
  unfold worstOf
  rw [take_step h, List.foldl_append]
  rfl
def rStep (n : Ed → Nat) (e : Ed) (s : Ed × Nat) : Ed × Nat := if s.2 ≤ n e ∧ 0 < n e then (e, n e) else s
def refWorst (n : Ed → Nat) (l : List Ed) : Ed × Nat := l.foldr (rStep n) (edZ, 0)
theorem refW_step {n : Ed → Nat} {l : List Ed} {i : Nat} {e : Ed} (h : l[i]? = some e) : refWorst n (l.drop i) = rStep n e (refWorst n (l.drop (i + 1))) := by
  rw [drop_step h]
  rfl
theorem worst_gen {n : Ed → Nat} : ∀ (l : List Ed) (s : Ed × Nat), l.foldl (wStep n) s = if s.2 < (refWorst n l).2 then refWorst n l else s
  | [], s => by simp [refWorst]
  | e :: l, s => by
    have hr : refWorst n (e :: l) = rStep n e (refWorst n l) := rfl
    rw [List.foldl_cons, worst_gen l, hr]
    generalize refWorst n l = R
    unfold wStep rStep
    by_cases h1 : s.2 < n e
    · rw [if_pos h1]
      by_cases h2 : R.2 ≤ n e
      · rw [if_pos (show R.2 ≤ n e ∧ 0 < n e from ⟨h2, by omega⟩), if_neg (by simp; omega), if_pos (by simpa using h1)]
      · rw [if_neg (show ¬ (R.2 ≤ n e ∧ 0 < n e) from fun h => h2 h.1), if_pos (by simp; omega), if_pos (by omega)]
    · rw [if_neg h1]
      by_cases h2 : R.2 ≤ n e ∧ 0 < n e
      · rw [if_pos h2, if_neg (by omega), if_neg (by simpa using h1)]
      · rw [if_neg h2]
theorem worst_ref {n : Ed → Nat} {l : List Ed} : worstOf n l = refWorst n l := by
  have hz : ∀ l, (refWorst n l).2 = 0 → refWorst n l = (edZ, 0) := fun l => by
    induction l with
    | nil => intro _; rfl
    | cons e l ih =>
      intro h
      have hr : refWorst n (e :: l) = rStep n e (refWorst n l) := rfl
      rw [hr] at h ⊢
      unfold rStep at h ⊢
      split at h
      · rename_i hc; simp at h; omega
      · rename_i hc; rw [if_neg hc]; exact ih h
  unfold worstOf
  rw [worst_gen]
  split
  · rfl
  · rename_i h; exact (hz l (by simpa using h)).symm
/- whatif.Worst -/
set_option maxRecDepth 100000 in
set_option maxHeartbeats 1000000 in
theorem whatif_Worst {db : List Lsa} {root : Int} (hdl : db.length < 9223372036854775807 := by omega) : Triple Try.prog 66 [.sl 3 (db.map lsaC), .int root] [] (Is (.tup [.agg (edC (worstM db root).1), .int (worstM db root).2]) []) := by
  have hal := arcsDb_len db
  have hel := edgesM_len (arcsDb db)
  refine triple_ofR Try.func66 rfl (by kernel_rfl) rfl (by simp) ?_
  refine aSeq ?_
  refine aReg ?_
  refine sq ?_
  refine qAlloc rfl rfl (by decide) ze_73 rfl (fun b4 => ?_)
  refine sp pMa ?_
  refine oNil ?_
  refine aSeq ?_
  refine aReg ?_
  refine sq ?_
  refine qAlloc rfl rfl (by decide) ze_73 rfl (fun b6 => ?_)
  refine oNil ?_
  refine aSeq ?_
  refine aReg ?_
  refine sp pMa ?_
  refine oNil ?_
  refine aSeq ?_
  refine aSeq ?_
  refine aReg ?_
  refine sp pM ?_
  refine sq ?_
  refine ci rfl rfl rfl (graph_Arcs_s (db := db) hdl) ?_
  refine sq ?_
  refine ci rfl rfl rfl (bridge_Edges_s (l := arcsDb db) (by omega)) ?_
  refine sp (by first | exact pLm sl_104 | exact pLs sl_104 | exact pLv sl_104) ?_
  refine sp pM ?_
  refine oNil ?_
  refine aBlock ?_
  refine loopF (α := Nat × (Ed × Nat)) (kept := [(0, _), (1, _), (4, _), (6, _), (13, _), (14, _)]) (fun (i, s) => i ≤ (edgesM (arcsDb db)).length ∧ s = (worstOf (lostN db root) ((edgesM (arcsDb db)).take i))) (fun (i, s) => [(15, .int i), (7, .int s.2)]) (fun (i, s) => [.box b6 (edC s.1)]) (fun (i, s) => (edgesM (arcsDb db)).length - i) (0, (edZ, 0)) ?_ ⟨gInt rfl (by first | rfl | omega | simp), gInt rfl (by first | rfl | omega | simp), rfl, rfl, rfl, rfl, rfl, rfl, trivial⟩ (by repeat constructor) ?_
  · skip
    exact ⟨by omega, rfl⟩
  · rintro ⟨i, s⟩ ⟨hi, hs⟩
    refine aSeq ?_
    refine aReg ?_
    refine sp pB ?_
    refine oNil ?_
    refine aSeq ?_
    refine aCondDec rfl (fun c16 => ?_) (fun c16 => ?_)
    · skip
      refine aSkip ?_
      refine aSeq ?_
      refine aBlock ?_
      refine aSeq ?_
      obtain ⟨e, he⟩ : ∃ z, (edgesM (arcsDb db))[i]? = some z := ⟨_, List.getElem?_eq_getElem (by omega)⟩
      refine aReg ?_
      first | refine sp (pIx es_104) ?_ | (refine obtSN 13 15 rfl rfl (by omega) (fun x17 hx17 => ?_); refine sp (pIs es_104 hx17) ?_) | (refine obtS 13 15 rfl rfl (by omega) (by omega) (fun x17 hx17 => ?_); refine sp (pIs es_104 hx17) ?_) | refine sp (pIo es_104) ?_
      refine sr (by first | exact rSW ty_73 rfl | exact rSA ty_73 | exact rBWa ty_73 | exact rBW ty_73 | exact rBA ty_73 | exact rArA ty_73 (fun _ => rfl)) ?_
      refine sq ?_
      refine qAlloc rfl rfl (by decide) ze_73 rfl (fun b9 => ?_)
      refine sa ?_
      refine oStW rfl rfl rfl rfl (by repeat constructor) ty_73 ?_
      refine oNil ?_
      refine aSeq ?_
      refine aReg ?_
      refine sp pM ?_
      refine sp pM ?_
      refine sp (pFb fd_73_0) ?_
      refine sr (rB1 ty_3) ?_
      refine sp (pFb fd_73_1) ?_
      refine sr (rB1 ty_3) ?_
      refine sq ?_
      refine ci rfl rfl rfl (whatif_NoLink_s (db := db) (a := e.a) (b := e.b) hdl) ?_
      refine sp pM ?_
      refine sq ?_
      refine ci rfl rfl rfl (whatif_Lost_s (x := db) (y := noLink db e.a e.b) (r := root) hdl (by have := noLink_len db e.a e.b; omega)) ?_
      refine sp (by first | exact pLm sl_25 | exact pLs sl_25 | exact pLv sl_25) ?_
      refine sp pMa ?_
      refine oNil ?_
      refine aSeq ?_
      have hst := worst_step (n := lostN db root) he
      have hln : (thoseM lostP (rtsDb db root) (rtsDb (noLink db e.a e.b) root) 64).length = lostN db root e := rfl
      have hll := those_len (p := lostP) (x := rtsDb db root) (y := rtsDb (noLink db e.a e.b) root) (m := 64)
      refine aReg ?_
      refine sp pM ?_
      refine sp pM ?_
      refine sp pB ?_
      refine oNil ?_
      refine aCondDec rfl (fun c31 => ?_) (fun c31 => ?_)
      · skip
        refine aReg ?_
        refine sr (by first | exact rBWa ty_73 | exact rBW ty_73 | exact rBA ty_73) ?_
        refine sp pM ?_
        refine sa ?_
        refine oStW rfl rfl rfl rfl (by repeat constructor) ty_73 ?_
        refine sp pMa ?_
        refine oNil ?_
        refine aReg ?_
        refine sp pAd ?_
        refine sp pM ?_
        refine oNil ?_
        refine ⟨(i + 1, (_, _)), ?_, by (try dsimp only); omega, ⟨gInt rfl (by first | rfl | omega | simp), gInt rfl (by first | rfl | omega | simp), rfl, rfl, rfl, rfl, rfl, rfl, trivial⟩, _, (by repeat constructor)⟩
        refine ⟨by omega, ?_⟩
        rw [hst, ← hs]
        unfold wStep
        first
          | exact (if_pos (by omega)).symm
          | exact (if_neg (by omega)).symm
      · skip
        refine aSkip ?_
        refine aReg ?_
        refine sp pAd ?_
        refine sp pM ?_
        refine oNil ?_
        refine ⟨(i + 1, (_, _)), ?_, by (try dsimp only); omega, ⟨gInt rfl (by first | rfl | omega | simp), gInt rfl (by first | rfl | omega | simp), rfl, rfl, rfl, rfl, rfl, rfl, trivial⟩, _, (by repeat constructor)⟩
        refine ⟨by omega, ?_⟩
        rw [hst, ← hs]
        unfold wStep
        first
          | exact (if_pos (by omega)).symm
          | exact (if_neg (by omega)).symm
    · skip
      refine aExit rfl ?_
      refine aSeq ?_
      refine aReg ?_
      refine sr (by first | exact rBWa ty_73 | exact rBW ty_73 | exact rBA ty_73) ?_
      refine sp pM ?_
      refine sa ?_
      refine oStW rfl rfl rfl rfl (by repeat constructor) ty_73 ?_
      refine sp pMa ?_
      refine oNil ?_
      refine aRet ?_
      refine finRIs (l := [.agg (edC s.1), .int s.2]) (.cons (.cellA rfl (by repeat (first | exact List.mem_cons_self | apply List.mem_cons_of_mem)) ty_73) (.cons (.tmp rfl) .nil)) ?_
      rw [hs, take_all (by omega)]
      rfl
/- waymarkref09.Same -/
def ref09_Same_r6_T : Bool × List (List Nat × List Nat) := (true, [([], []), ([0], [0]), ([], []), ([1, 2], [1, 2]), ([3], [3]), ([], []), ([5], [5]), ([], []), ([6, 7], [6, 7]), ([8], [8]), ([4, 9], [4, 9])])
def ref09_Same_r6_B : List Nat := [0, 1, 0, 7, 15, 0, 32, 0, 224, 480, 1023]
theorem ref09_Same_r6_t : Go.Proofs.YtmcannmjielalaaW.PrintLast.rtab .any (Go.Proofs.YtmcannmjielalaaW.PrintLast.opsOf Try.f150 6) = ref09_Same_r6_T := by kernel_rfl
theorem ref09_Same_r6_b : Go.Proofs.YtmcannmjielalaaW.PrintLast.waitsOk ref09_Same_r6_T.2 ref09_Same_r6_B = true := by kernel_rfl
set_option maxRecDepth 100000 in
set_option maxHeartbeats 400000 in
theorem ref09_Same {a b : Lsa} (ha : a.ls.length < 9223372036854775807 := by omega) (hb : b.ls.length < 9223372036854775807 := by omega) : Triple Try.prog 150 [.agg (lsaC a), .agg (lsaC b)] [] (Is (.v (.bool (decide (a = b)))) []) := by
  refine triple_of Try.func150 rfl (by kernel_rfl) rfl (by simp) ?_
  refine aSeq ?_
  refine aReg ?_
  refine sq ?_
  refine qBox rfl rfl (by decide) rfl rfl (fun b2 => ?_)
  refine sq ?_
  refine qBox rfl rfl (by decide) rfl rfl (fun b3 => ?_)
  refine sp pMa ?_
  refine oNil ?_
  refine aSeq ?_
  refine aSeq ?_
  refine aReg ?_
  refine sp (pFb fd_141_0) ?_
  refine sr (rB1 ty_3) ?_
  refine sp (pFb fd_141_0) ?_
  refine sr (rB1 ty_3) ?_
  refine sp pB ?_
  refine sp pM ?_
  refine oSplitNe 11 rfl (fun c11 => ?_) (fun c11 => ?_)
  · skip
    refine gf ?_
    refine gf ?_
    refine gf ?_
    refine gf ?_
    refine gf ?_
    refine sp pK ?_
    refine sp pM ?_
    refine gf ?_
    refine gf ?_
    refine gf ?_
    refine gf ?_
    refine gf ?_
    refine gf ?_
    refine gf ?_
    refine sp pK ?_
    refine oNil ?_
    refine aCondT rfl ?_
    refine aSeq ?_
    refine aReg ?_
    refine sp pMa ?_
    refine oNil ?_
    refine aRet ?_
    refine finIs rfl ?_
    rw [decide_eq_false (fun e => by subst e; simp_all)]
    rfl
  · skip
    refine gp (pFb fd_141_1) ?_
    refine gr (rB1 ty_3) ?_
    refine gp (pFb fd_141_1) ?_
    refine gr (rB1 ty_3) ?_
    refine gp pB ?_
    refine sp pK ?_
    refine sp pM ?_
    refine oSplitNe 18 rfl (fun c18 => ?_) (fun c18 => ?_)
    · skip
      refine gf ?_
      refine gf ?_
      refine gf ?_
      refine gf ?_
      refine gf ?_
      refine gf ?_
      refine gf ?_
      refine sp pK ?_
      refine oNil ?_
      refine aCondT rfl ?_
      refine aSeq ?_
      refine aReg ?_
      refine sp pMa ?_
      refine oNil ?_
      refine aRet ?_
      refine finIs rfl ?_
      rw [decide_eq_false (fun e => by subst e; simp_all)]
      rfl
    · skip
      refine gp (pFb fd_141_2) ?_
      refine gr (rB1 ty_139) ?_
      refine gp (by first | exact pLm sl_139 | exact pLs sl_139 | exact pLv sl_139) ?_
      refine gp (pFb fd_141_2) ?_
      refine gr (rB1 ty_139) ?_
      refine gp (by first | exact pLm sl_139 | exact pLs sl_139 | exact pLv sl_139) ?_
      refine gp pB ?_
      refine sp pK ?_
      refine oNil ?_
      refine aCondNe rfl (fun c26 => ?_) (fun c26 => ?_)
      · skip
        refine aSeq ?_
        refine aReg ?_
        refine sp pMa ?_
        refine oNil ?_
        refine aRet ?_
        refine finIs rfl ?_
        rw [decide_eq_false (fun e => by subst e; simp_all)]
        rfl
      · skip
        refine aSkip ?_
        refine aSeq ?_
        refine aSeq ?_
        refine aReg ?_
        refine sp pMa ?_
        refine oNil ?_
        refine aBlock ?_
        refine loopF (α := Nat) (kept := [(2, _), (3, _)]) (fun i => i ≤ a.ls.length ∧ a.o = b.o ∧ a.s = b.s ∧ a.ls.length = b.ls.length ∧ a.ls.take i = b.ls.take i) (fun i => [(5, .int i)]) (fun i => []) (fun i => a.ls.length - i) 0 ?_ ⟨gInt rfl (by first | rfl | omega | simp), rfl, rfl, trivial⟩ (by repeat constructor) ?_
        · skip
          refine ⟨by omega, ?_, ?_, ?_, rfl⟩ <;> first | (simp_all; done) | omega | (simp_all; omega)
        · rintro i ⟨hi, h1, h2, hl, hv⟩
          refine aSeq ?_
          refine aSeq ?_
          refine aReg ?_
          refine sp pM ?_
          refine sp (pFb fd_141_2) ?_
          refine sr (rB1 ty_139) ?_
          refine sp (by first | exact pLm sl_139 | exact pLs sl_139 | exact pLv sl_139) ?_
          refine sp pB ?_
          refine oNil ?_
          refine aCondDec rfl (fun c31 => ?_) (fun c31 => ?_)
          · skip
            refine aSkip ?_
            refine aSeq ?_
            refine aBlock ?_
            refine aSeq ?_
            refine aDrawT ref09_Same_r6_t ref09_Same_r6_b [] 11 #[false, false, false, false, false, false, false, false, false, false, false] (by kernel_rfl) rfl rfl (fun HT => ?_)
            refine dp HT 0 rfl (pFb fd_141_2) ?_
            refine dr HT 1 rfl (rB1 ty_139) ?_
            refine dp HT 2 rfl pM ?_
            first | refine dp HT 3 rfl (pIx es_139) ?_ | (refine obtDN 35 36 rfl rfl (by omega) (fun x37 hx37 => ?_); refine dp HT 3 rfl (pIs es_139 hx37) ?_) | (refine obtD 35 36 rfl rfl (by omega) (by omega) (fun x37 hx37 => ?_); refine dp HT 3 rfl (pIs es_139 hx37) ?_) | refine dp HT 3 rfl (pIo es_139) ?_
            refine dr HT 4 rfl (by first | exact rSW ty_138 rfl | exact rSA ty_138 | exact rBWa ty_138 | exact rBW ty_138 | exact rBA ty_138 | exact rArA ty_138 (fun _ => rfl)) ?_
            refine dp HT 5 rfl (pFb fd_141_2) ?_
            refine dr HT 6 rfl (rB1 ty_139) ?_
            refine dp HT 7 rfl pM ?_
            first | refine dp HT 8 rfl (pIx es_139) ?_ | (refine obtDN 40 41 rfl rfl (by omega) (fun x42 hx42 => ?_); refine dp HT 8 rfl (pIs es_139 hx42) ?_) | (refine obtD 40 41 rfl rfl (by omega) (by omega) (fun x42 hx42 => ?_); refine dp HT 8 rfl (pIs es_139 hx42) ?_) | refine dp HT 8 rfl (pIo es_139) ?_
            refine dr HT 9 rfl (by first | exact rSW ty_138 rfl | exact rSA ty_138 | exact rBWa ty_138 | exact rBW ty_138 | exact rBA ty_138 | exact rArA ty_138 (fun _ => rfl)) ?_
            refine dp HT 10 rfl (pEqAn eq_138) ?_
            refine dE HT ?_
            clear HT
            refine aCond rfl (fun c44 => ?_) (fun c44 => ?_)
            · skip
              refine aSeq ?_
              refine aReg ?_
              refine sp pMa ?_
              refine oNil ?_
              refine aRet ?_
              refine finIs rfl ?_
              rw [decide_eq_false (fun e => by subst e; obtain rfl := Option.some.inj (hx37.symm.trans hx42); simp_all)]
              rfl
            · skip
              refine aSkip ?_
              refine aReg ?_
              refine sp pM ?_
              refine sp pAd ?_
              refine sp pMa ?_
              refine oNil ?_
              refine ⟨i + 1, ?_, by (try dsimp only); omega, ⟨gInt rfl (by first | rfl | omega | simp), rfl, rfl, trivial⟩, _, (by repeat constructor)⟩
              have hxy : x37 = x42 := by
                cases x37
                cases x42
                simp_all
              exact ⟨by omega, h1, h2, hl, by rw [take_step hx37, take_step hx42, hv, hxy]⟩
          · skip
            refine aExit rfl ?_
            refine aSeq ?_
            refine aReg ?_
            refine sp pMa ?_
            refine oNil ?_
            refine aRet ?_
            refine finIs rfl ?_
            rw [take_all (by omega), take_all (by omega)] at hv
            rw [decide_eq_true (by cases a; cases b; simp_all)]
            rfl
/- waymarkref09.All -/
def ref09_All_r6_T : Bool × List (List Nat × List Nat) := (true, [([], []), ([], []), ([0, 1], [0, 1]), ([2], [2]), ([], []), ([], []), ([4, 5], [4, 5]), ([6], [6]), ([3, 7], [3, 7]), ([8], [8])])
def ref09_All_r6_B : List Nat := [0, 0, 3, 7, 0, 0, 48, 112, 255, 511]
theorem ref09_All_r6_t : Go.Proofs.YtmcannmjielalaaW.PrintLast.rtab .any (Go.Proofs.YtmcannmjielalaaW.PrintLast.opsOf Try.f68 6) = ref09_All_r6_T := by kernel_rfl
theorem ref09_All_r6_b : Go.Proofs.YtmcannmjielalaaW.PrintLast.waitsOk ref09_All_r6_T.2 ref09_All_r6_B = true := by kernel_rfl
set_option maxRecDepth 100000 in
set_option maxHeartbeats 400000 in
theorem ref09_All {a b : List Lsa} (ha : a.length < 9223372036854775807 := by omega) (hb : b.length < 9223372036854775807 := by omega) (hma : ∀ x ∈ a, x.ls.length < 9223372036854775807) (hmb : ∀ x ∈ b, x.ls.length < 9223372036854775807) : Triple Try.prog 68 [.sl 3 (a.map lsaC), .sl 3 (b.map lsaC)] [] (Is (.v (.bool (decide (a = b)))) []) := by
  refine triple_of Try.func68 rfl (by kernel_rfl) rfl (by simp) ?_
  refine aSeq ?_
  refine aReg ?_
  refine sp pMa ?_
  refine oNil ?_
  refine aSeq ?_
  refine aSeq ?_
  refine aReg ?_
  refine sp pM ?_
  refine sp (by first | exact pLm sl_55 | exact pLs sl_55) ?_
  refine sp pM ?_
  refine sp (by first | exact pLm sl_55 | exact pLs sl_55) ?_
  refine sp pB ?_
  refine oNil ?_
  refine aCondNe rfl (fun c10 => ?_) (fun c10 => ?_)
  · skip
    refine aSeq ?_
    refine aReg ?_
    refine sp pMa ?_
    refine oNil ?_
    refine aRet ?_
    refine finIs rfl ?_
    rw [decide_eq_false (fun e => by subst e; simp at c10)]
    rfl
  · skip
    refine aSkip ?_
    refine aSeq ?_
    refine aSeq ?_
    refine aReg ?_
    refine sp pMa ?_
    refine oNil ?_
    refine aBlock ?_
    refine loopF (α := Nat) (kept := [(0, _), (1, _)]) (fun i => i ≤ a.length ∧ a.length = b.length ∧ a.take i = b.take i) (fun i => [(5, .int i)]) (fun i => []) (fun i => a.length - i) 0 ?_ ⟨gInt rfl (by first | rfl | omega | simp), rfl, rfl, trivial⟩ (by repeat constructor) ?_
    · skip
      exact ⟨by omega, by omega, rfl⟩
    · rintro i ⟨hi, hl, hv⟩
      refine aSeq ?_
      refine aSeq ?_
      refine aReg ?_
      refine sp pM ?_
      refine sp pM ?_
      refine sp (by first | exact pLm sl_55 | exact pLs sl_55) ?_
      refine sp pB ?_
      refine oNil ?_
      refine aCondDec rfl (fun c14 => ?_) (fun c14 => ?_)
      · skip
        refine aSkip ?_
        refine aSeq ?_
        refine aBlock ?_
        refine aSeq ?_
        refine aDrawT ref09_All_r6_t ref09_All_r6_b [] 10 #[false, false, false, false, false, false, false, false, false, false] (by kernel_rfl) rfl rfl (fun HT => ?_)
        refine dp HT 0 rfl pM ?_
        refine dp HT 1 rfl pM ?_
        first | refine dp HT 2 rfl (pIx es_55) ?_ | (refine obtDN 17 18 rfl rfl (by omega) (fun x19 hx19 => ?_); refine dp HT 2 rfl (pIs es_55 hx19) ?_) | (refine obtD 17 18 rfl rfl (by omega) (by omega) (fun x19 hx19 => ?_); refine dp HT 2 rfl (pIs es_55 hx19) ?_) | refine dp HT 2 rfl (pIo es_55) ?_
        refine dr HT 3 rfl (by first | exact rSW ty_141 rfl | exact rSA ty_141) ?_
        refine dp HT 4 rfl pM ?_
        refine dp HT 5 rfl pM ?_
        first | refine dp HT 6 rfl (pIx es_55) ?_ | (refine obtDN 21 22 rfl rfl (by omega) (fun x23 hx23 => ?_); refine dp HT 6 rfl (pIs es_55 hx23) ?_) | (refine obtD 21 22 rfl rfl (by omega) (by omega) (fun x23 hx23 => ?_); refine dp HT 6 rfl (pIs es_55 hx23) ?_) | refine dp HT 6 rfl (pIo es_55) ?_
        refine dr HT 7 rfl (by first | exact rSW ty_141 rfl | exact rSA ty_141) ?_
        refine dGo ?_
        refine e1 HT 8 rfl ?_
        refine cv rfl rfl rfl (lents_refl _) (ref09_Same (a := x19) (b := x23) (hma _ (List.mem_of_getElem? hx19)) (hmb _ (List.mem_of_getElem? hx23))) ?_
        refine ef HT 9 rfl pNo ?_
        refine eE HT ?_
        clear HT
        refine aCondNot rfl (fun c26 => ?_) (fun c26 => ?_)
        · skip
          refine aSeq ?_
          refine aReg ?_
          refine sp pMa ?_
          refine oNil ?_
          refine aRet ?_
          refine finIs rfl ?_
          rw [decide_eq_false (fun e => by subst e; obtain rfl := Option.some.inj (hx19.symm.trans hx23); simp_all)]
          rfl
        · skip
          refine aSkip ?_
          refine aReg ?_
          refine sp pM ?_
          refine sp pAd ?_
          refine sp pMa ?_
          refine oNil ?_
          refine ⟨i + 1, ?_, by (try dsimp only); omega, ⟨gInt rfl (by first | rfl | omega | simp), rfl, rfl, trivial⟩, _, (by repeat constructor)⟩
          have hxy : x19 = x23 := by simp_all
          exact ⟨by omega, hl, by rw [take_step hx19, take_step hx23, hv, hxy]⟩
      · skip
        refine aExit rfl ?_
        refine aSeq ?_
        refine aReg ?_
        refine sp pMa ?_
        refine oNil ?_
        refine aRet ?_
        refine finIs rfl ?_
        rw [take_all (by omega), take_all (by omega)] at hv
        rw [decide_eq_true hv]
        rfl
def keepP (o a b : Int) (x : Link) : Bool := !(o == a && x.t == b) && !(o == b && x.t == a)
def refNLl (a b : Int) (l : Lsa) : Lsa := ⟨l.o, l.s, l.ls.filter (keepP l.o a b)⟩
def refNL (db : List Lsa) (a b : Int) : List Lsa := db.map (refNLl a b)
def refNN (db : List Lsa) (n : Int) : List Lsa := db.filter fun l => l.o != n
theorem keep_len (l : List Link) (p : Link → Bool) (i : Nat) : ((l.take i).filter p).length ≤ i := by
  refine Nat.le_trans (List.length_filter_le _ _) ?_
  rw [List.length_take]
  omega
/- waymarkref45.NoLink -/
def ref45_NoLink_r5_T : Bool × List (List Nat × List Nat) := (true, [([], []), ([], []), ([0, 1], [0, 1]), ([2], [2]), ([3], [3]), ([], []), ([], []), ([5, 6], [5, 6]), ([7], [7]), ([8], [8]), ([4, 9], [4, 9]), ([], []), ([11, 10, 0, 1, 2, 3, 4, 5, 6, 7, 8, 9, 10, 11], [10, 11])])
def ref45_NoLink_r5_B : List Nat := [0, 0, 3, 7, 15, 0, 0, 96, 224, 480, 1023, 0, 4095]
theorem ref45_NoLink_r5_t : Go.Proofs.YtmcannmjielalaaW.PrintLast.rtab .any (Go.Proofs.YtmcannmjielalaaW.PrintLast.opsOf Try.f69 5) = ref45_NoLink_r5_T := by kernel_rfl
theorem ref45_NoLink_r5_b : Go.Proofs.YtmcannmjielalaaW.PrintLast.waitsOk ref45_NoLink_r5_T.2 ref45_NoLink_r5_B = true := by kernel_rfl
set_option maxRecDepth 100000 in
set_option maxHeartbeats 2000000 in
theorem ref45_NoLink {db : List Lsa} {a b : Int} (hdl : db.length ≤ 1000000) (hlk : ∀ x ∈ db, x.ls.length ≤ 1000000) : Triple Try.prog 69 [.sl 3 (db.map lsaC), .int a, .int b] [] (Own 141 3 ((refNL db a b).map lsaC) []) := by
  refine triple_of Try.func69 rfl (by kernel_rfl) rfl (by simp) ?_
  refine aSeq ?_
  refine aReg ?_
  refine sp pMa ?_
  refine oNil ?_
  refine aSeq ?_
  refine aReg ?_
  refine sq ?_
  refine qLit (l := []) rfl rfl (by decide) us_55 ty_141 ze_141 rfl (by decide) (by decide) rfl rfl rfl (fun b12 => ?_)
  refine sp pMa ?_
  refine oNil ?_
  refine aSeq ?_
  refine aSeq ?_
  refine aReg ?_
  refine sp pMa ?_
  refine oNil ?_
  refine aBlock ?_
  refine loopF (α := Nat × List Lsa × Option Nat × Nat) (kept := [(0, _), (1, _), (2, _)]) (fun (i, out, g, c) => i ≤ db.length ∧ out = (db.take i).map (refNLl a b)) (fun (i, out, g, c) => [(8, .int i), (7, .v (slV g out.length c))]) (fun (i, out, g, c) => [.sl g c 141 3 (out.map lsaC)]) (fun (i, out, g, c) => db.length - i) (0, [], _, _) ?_ ⟨gInt rfl (by first | rfl | omega | simp), gLen rfl (by first | rfl | simp | (simp; omega)), rfl, rfl, rfl, trivial⟩ (by repeat constructor) ?_
  · skip
    exact ⟨by omega, rfl⟩
  · rintro ⟨i, out, g, c⟩ ⟨hi, ho⟩
    refine aSeq ?_
    refine aSeq ?_
    refine aReg ?_
    refine sp pM ?_
    refine sp pM ?_
    refine sp (by first | exact pLm sl_55 | exact pLs sl_55) ?_
    refine sp pB ?_
    refine oNil ?_
    refine aCondDec rfl (fun c16 => ?_) (fun c16 => ?_)
    · skip
      refine aSkip ?_
      refine aSeq ?_
      refine aBlock ?_
      refine aSeq ?_
      obtain ⟨x, hx⟩ : ∃ z, db[i]? = some z := ⟨_, List.getElem?_eq_getElem (by omega)⟩
      have hxl := hlk x (List.mem_of_getElem? hx)
      refine aDrawT ref45_NoLink_r5_t ref45_NoLink_r5_b [12] 13 #[false, false, false, false, false, false, false, false, false, false, false, false, false] (by kernel_rfl) rfl rfl (fun HT => ?_)
      refine dp HT 0 rfl pM ?_
      refine dp HT 1 rfl pM ?_
      first | refine dp HT 2 rfl (pIx es_55) ?_ | (refine obtDN 19 20 rfl rfl (by omega) (fun x21 hx21 => ?_); refine dp HT 2 rfl (pIs es_55 hx21) ?_) | (refine obtD 19 20 rfl rfl (by omega) (by omega) (fun x21 hx21 => ?_); refine dp HT 2 rfl (pIs es_55 hx21) ?_) | refine dp HT 2 rfl (pIo es_55) ?_
      refine dp HT 3 rfl (pFs fd_141_0) ?_
      refine dr HT 4 rfl (rS1 ty_3) ?_
      refine dp HT 5 rfl pM ?_
      refine dp HT 6 rfl pM ?_
      first | refine dp HT 7 rfl (pIx es_55) ?_ | (refine obtDN 24 25 rfl rfl (by omega) (fun x26 hx26 => ?_); refine dp HT 7 rfl (pIs es_55 hx26) ?_) | (refine obtD 24 25 rfl rfl (by omega) (by omega) (fun x26 hx26 => ?_); refine dp HT 7 rfl (pIs es_55 hx26) ?_) | refine dp HT 7 rfl (pIo es_55) ?_
      refine dp HT 8 rfl (pFs fd_141_1) ?_
      refine dr HT 9 rfl (rS1 ty_3) ?_
      refine dp HT 10 rfl (pBuild rfl st_141 ze_141 rfl rfl rfl rfl) ?_
      refine dGo ?_
      refine e1 HT 11 rfl ?_
      refine qAlloc rfl rfl (by decide) ze_141 rfl (fun b9 => ?_)
      refine eLast ?_
      refine f1 HT 12 rfl ?_
      refine oStW rfl rfl rfl rfl (by repeat constructor) ty_141 ?_
      refine fE HT ?_
      clear HT
      refine aSeq ?_
      refine aSeq ?_
      refine aWeak (weak_nil 138 2) ?_
      refine aReg ?_
      refine sp pMa ?_
      refine oNil ?_
      refine aBlock ?_
      refine loopF (α := Nat × List Link × Option Nat × Nat) (kept := [(0, _), (1, _), (2, _), (7, _), (8, _), (9, _)]) (fun (k, ls, g2, c2) => k ≤ x.ls.length ∧ ls = (x.ls.take k).filter (keepP x.o a b)) (fun (k, ls, g2, c2) => [(10, .int k)]) (fun (k, ls, g2, c2) => [.box b9 [.int x.o, .int x.s, .v (slV g2 ls.length c2)], .sl g2 c2 138 2 (ls.map linkC)]) (fun (k, ls, g2, c2) => x.ls.length - k) (0, [], none, 0) ?_ ⟨gInt rfl (by first | rfl | omega | simp), rfl, rfl, rfl, rfl, rfl, rfl, trivial⟩ (by repeat constructor) ?_
      · skip
        exact ⟨by omega, rfl⟩
      · rintro ⟨k, ls, g2, c2⟩ ⟨hk, hls⟩
        refine aSeq ?_
        refine aSeq ?_
        refine aReg ?_
        refine sp pM ?_
        refine sp pM ?_
        refine sp pM ?_
        first | refine sp (pIx es_55) ?_ | (refine obtSN 31 32 rfl rfl (by omega) (fun x33 hx33 => ?_); refine sp (pIs es_55 hx33) ?_) | (refine obtS 31 32 rfl rfl (by omega) (by omega) (fun x33 hx33 => ?_); refine sp (pIs es_55 hx33) ?_) | refine sp (pIo es_55) ?_
        refine sp (pFs fd_141_2) ?_
        refine sr (rS1 ty_139) ?_
        refine sp (by first | exact pLm sl_139 | exact pLs sl_139 | exact pLv sl_139) ?_
        refine sp pB ?_
        refine oNil ?_
        refine aCondDec rfl (fun c37 => ?_) (fun c37 => ?_)
        · skip
          refine aSkip ?_
          refine aSeq ?_
          refine aBlock ?_
          refine aSeq ?_
          obtain ⟨y, hy⟩ : ∃ z, x.ls[k]? = some z := ⟨_, List.getElem?_eq_getElem (by omega)⟩
          refine aReg ?_
          refine sp pM ?_
          refine sp pM ?_
          first | refine sp (pIx es_55) ?_ | (refine obtSN 40 41 rfl rfl (by omega) (fun x42 hx42 => ?_); refine sp (pIs es_55 hx42) ?_) | (refine obtS 40 41 rfl rfl (by omega) (by omega) (fun x42 hx42 => ?_); refine sp (pIs es_55 hx42) ?_) | refine sp (pIo es_55) ?_
          refine sp (pFs fd_141_2) ?_
          refine sr (rS1 ty_139) ?_
          refine sp pM ?_
          first | refine sp (pIx es_139) ?_ | (refine obtSN 44 45 rfl rfl (by omega) (fun x46 hx46 => ?_); refine sp (pIs es_139 hx46) ?_) | (refine obtS 44 45 rfl rfl (by omega) (by omega) (fun x46 hx46 => ?_); refine sp (pIs es_139 hx46) ?_) | refine sp (pIo es_139) ?_
          refine sr (by first | exact rSW ty_138 rfl | exact rSA ty_138 | exact rBWa ty_138 | exact rBW ty_138 | exact rBA ty_138 | exact rArA ty_138 (fun _ => rfl)) ?_
          refine sq ?_
          refine qAlloc rfl rfl (by decide) ze_138 rfl (fun b11 => ?_)
          refine sa ?_
          refine oStW rfl rfl rfl rfl (by repeat constructor) ty_138 ?_
          refine oNil ?_
          refine aSeq ?_
          refine aReg ?_
          refine sp (pFb fd_141_0) ?_
          refine sr (rB1 ty_3) ?_
          refine sp pM ?_
          refine sp pB ?_
          refine sp pM ?_
          refine oSplitEq 52 rfl (fun c52 => ?_) (fun c52 => ?_)
          · skip
            refine gp (pFb fd_138_0) ?_
            refine gr (rB1 ty_3) ?_
            refine gp pM ?_
            refine gp pB ?_
            refine sp pK ?_
            refine sp pNo ?_
            refine sp pM ?_
            refine oSplitNot 59 rfl (fun c59 => ?_) (fun c59 => ?_)
            · skip
              refine gp (pFb fd_141_0) ?_
              refine gr (rB1 ty_3) ?_
              refine gp pM ?_
              refine gp pB ?_
              refine gp pM ?_
              refine oSplitEq 64 rfl (fun c64 => ?_) (fun c64 => ?_)
              · skip
                refine gp (pFb fd_138_0) ?_
                refine gr (rB1 ty_3) ?_
                refine gp pM ?_
                refine gp pB ?_
                refine gp pK ?_
                refine gp pNo ?_
                refine sp pK ?_
                refine oNil ?_
                refine aCondNot rfl (fun c71 => ?_) (fun c71 => ?_)
                · skip
                  have hsl := keep_len x.ls (keepP x.o a b) k
                  rw [← hls] at hsl
                  refine aReg ?_
                  refine sp (pFb fd_141_2) ?_
                  refine sr (rB1 ty_139) ?_
                  refine sr (by first | exact rBWa ty_138 | exact rBW ty_138 | exact rBA ty_138) ?_
                  refine sq ?_
                  refine qLit (l := [_]) rfl rfl (by decide) us_139 ty_138 ze_138 rfl (by decide) (by decide) rfl rfl rfl (fun b75 => ?_)
                  refine sa ?_
                  refine oAppT ([y] : List Link) rfl rfl (by repeat constructor) (srcOwn rfl (by repeat constructor) rfl) el_139 sl_139 (fun g76 k76 => ?_)
                  refine sp (pFb fd_141_2) ?_
                  refine sa ?_
                  refine oStB rfl rfl rfl rfl (by repeat constructor) ty_139 rfl (Nat.le_of_ble_eq_true rfl) rfl ?_
                  refine oNil ?_
                  refine aReg ?_
                  refine sp pM ?_
                  refine sp pAd ?_
                  refine sp pMa ?_
                  refine oNil ?_
                  refine ⟨(k + 1, _, _, _), ?_, by (try dsimp only); omega, ⟨gInt rfl (by first | rfl | omega | simp), rfl, rfl, rfl, rfl, rfl, rfl, trivial⟩, _, (by repeat constructor)⟩
                  refine ⟨by omega, ?_⟩
                  rw [filt_step hy, ← hls]
                  cases hp : keepP x.o a b y <;> first
                    | (simp; done)
                    | (exfalso; unfold keepP at hp; simp_all)
                · skip
                  refine aSkip ?_
                  refine aReg ?_
                  refine sp pM ?_
                  refine sp pAd ?_
                  refine sp pMa ?_
                  refine oNil ?_
                  refine ⟨(k + 1, _, _, _), ?_, by (try dsimp only); omega, ⟨gInt rfl (by first | rfl | omega | simp), rfl, rfl, rfl, rfl, rfl, rfl, trivial⟩, _, (by repeat constructor)⟩
                  refine ⟨by omega, ?_⟩
                  rw [filt_step hy, ← hls]
                  cases hp : keepP x.o a b y <;> first
                    | (simp; done)
                    | (exfalso; unfold keepP at hp; simp_all)
              · skip
                refine gf ?_
                refine gf ?_
                refine gf ?_
                refine gf ?_
                refine gp pK ?_
                refine gp pNo ?_
                refine sp pK ?_
                refine oNil ?_
                refine aCondT rfl ?_
                have hsl := keep_len x.ls (keepP x.o a b) k
                rw [← hls] at hsl
                refine aReg ?_
                refine sp (pFb fd_141_2) ?_
                refine sr (rB1 ty_139) ?_
                refine sr (by first | exact rBWa ty_138 | exact rBW ty_138 | exact rBA ty_138) ?_
                refine sq ?_
                refine qLit (l := [_]) rfl rfl (by decide) us_139 ty_138 ze_138 rfl (by decide) (by decide) rfl rfl rfl (fun b75 => ?_)
                refine sa ?_
                refine oAppT ([y] : List Link) rfl rfl (by repeat constructor) (srcOwn rfl (by repeat constructor) rfl) el_139 sl_139 (fun g76 k76 => ?_)
                refine sp (pFb fd_141_2) ?_
                refine sa ?_
                refine oStB rfl rfl rfl rfl (by repeat constructor) ty_139 rfl (Nat.le_of_ble_eq_true rfl) rfl ?_
                refine oNil ?_
                refine aReg ?_
                refine sp pM ?_
                refine sp pAd ?_
                refine sp pMa ?_
                refine oNil ?_
                refine ⟨(k + 1, _, _, _), ?_, by (try dsimp only); omega, ⟨gInt rfl (by first | rfl | omega | simp), rfl, rfl, rfl, rfl, rfl, rfl, trivial⟩, _, (by repeat constructor)⟩
                refine ⟨by omega, ?_⟩
                rw [filt_step hy, ← hls]
                cases hp : keepP x.o a b y <;> first
                  | (simp; done)
                  | (exfalso; unfold keepP at hp; simp_all)
            · skip
              refine gf ?_
              refine gf ?_
              refine gf ?_
              refine gf ?_
              refine gf ?_
              refine gf ?_
              refine gf ?_
              refine gf ?_
              refine gf ?_
              refine gf ?_
              refine gf ?_
              refine sp pK ?_
              refine oNil ?_
              refine aCondF rfl ?_
              refine aSkip ?_
              refine aReg ?_
              refine sp pM ?_
              refine sp pAd ?_
              refine sp pMa ?_
              refine oNil ?_
              refine ⟨(k + 1, _, _, _), ?_, by (try dsimp only); omega, ⟨gInt rfl (by first | rfl | omega | simp), rfl, rfl, rfl, rfl, rfl, rfl, trivial⟩, _, (by repeat constructor)⟩
              refine ⟨by omega, ?_⟩
              rw [filt_step hy, ← hls]
              cases hp : keepP x.o a b y <;> first
                | (simp; done)
                | (exfalso; unfold keepP at hp; simp_all)
          · skip
            refine gf ?_
            refine gf ?_
            refine gf ?_
            refine gf ?_
            refine sp pK ?_
            refine sp pNo ?_
            refine sp pM ?_
            refine gp (pFb fd_141_0) ?_
            refine gr (rB1 ty_3) ?_
            refine gp pM ?_
            refine gp pB ?_
            refine gp pM ?_
            refine oSplitEq 64 rfl (fun c64 => ?_) (fun c64 => ?_)
            · skip
              refine gp (pFb fd_138_0) ?_
              refine gr (rB1 ty_3) ?_
              refine gp pM ?_
              refine gp pB ?_
              refine gp pK ?_
              refine gp pNo ?_
              refine sp pK ?_
              refine oNil ?_
              refine aCondNot rfl (fun c71 => ?_) (fun c71 => ?_)
              · skip
                have hsl := keep_len x.ls (keepP x.o a b) k
                rw [← hls] at hsl
                refine aReg ?_
                refine sp (pFb fd_141_2) ?_
                refine sr (rB1 ty_139) ?_
                refine sr (by first | exact rBWa ty_138 | exact rBW ty_138 | exact rBA ty_138) ?_
                refine sq ?_
                refine qLit (l := [_]) rfl rfl (by decide) us_139 ty_138 ze_138 rfl (by decide) (by decide) rfl rfl rfl (fun b75 => ?_)
                refine sa ?_
                refine oAppT ([y] : List Link) rfl rfl (by repeat constructor) (srcOwn rfl (by repeat constructor) rfl) el_139 sl_139 (fun g76 k76 => ?_)
                refine sp (pFb fd_141_2) ?_
                refine sa ?_
                refine oStB rfl rfl rfl rfl (by repeat constructor) ty_139 rfl (Nat.le_of_ble_eq_true rfl) rfl ?_
                refine oNil ?_
                refine aReg ?_
                refine sp pM ?_
                refine sp pAd ?_
                refine sp pMa ?_
                refine oNil ?_
                refine ⟨(k + 1, _, _, _), ?_, by (try dsimp only); omega, ⟨gInt rfl (by first | rfl | omega | simp), rfl, rfl, rfl, rfl, rfl, rfl, trivial⟩, _, (by repeat constructor)⟩
                refine ⟨by omega, ?_⟩
                rw [filt_step hy, ← hls]
                cases hp : keepP x.o a b y <;> first
                  | (simp; done)
                  | (exfalso; unfold keepP at hp; simp_all)
              · skip
                refine aSkip ?_
                refine aReg ?_
                refine sp pM ?_
                refine sp pAd ?_
                refine sp pMa ?_
                refine oNil ?_
                refine ⟨(k + 1, _, _, _), ?_, by (try dsimp only); omega, ⟨gInt rfl (by first | rfl | omega | simp), rfl, rfl, rfl, rfl, rfl, rfl, trivial⟩, _, (by repeat constructor)⟩
                refine ⟨by omega, ?_⟩
                rw [filt_step hy, ← hls]
                cases hp : keepP x.o a b y <;> first
                  | (simp; done)
                  | (exfalso; unfold keepP at hp; simp_all)
            · skip
              refine gf ?_
              refine gf ?_
              refine gf ?_
              refine gf ?_
              refine gp pK ?_
              refine gp pNo ?_
              refine sp pK ?_
              refine oNil ?_
              refine aCondT rfl ?_
              have hsl := keep_len x.ls (keepP x.o a b) k
              rw [← hls] at hsl
              refine aReg ?_
              refine sp (pFb fd_141_2) ?_
              refine sr (rB1 ty_139) ?_
              refine sr (by first | exact rBWa ty_138 | exact rBW ty_138 | exact rBA ty_138) ?_
              refine sq ?_
              refine qLit (l := [_]) rfl rfl (by decide) us_139 ty_138 ze_138 rfl (by decide) (by decide) rfl rfl rfl (fun b75 => ?_)
              refine sa ?_
              refine oAppT ([y] : List Link) rfl rfl (by repeat constructor) (srcOwn rfl (by repeat constructor) rfl) el_139 sl_139 (fun g76 k76 => ?_)
              refine sp (pFb fd_141_2) ?_
              refine sa ?_
              refine oStB rfl rfl rfl rfl (by repeat constructor) ty_139 rfl (Nat.le_of_ble_eq_true rfl) rfl ?_
              refine oNil ?_
              refine aReg ?_
              refine sp pM ?_
              refine sp pAd ?_
              refine sp pMa ?_
              refine oNil ?_
              refine ⟨(k + 1, _, _, _), ?_, by (try dsimp only); omega, ⟨gInt rfl (by first | rfl | omega | simp), rfl, rfl, rfl, rfl, rfl, rfl, trivial⟩, _, (by repeat constructor)⟩
              refine ⟨by omega, ?_⟩
              rw [filt_step hy, ← hls]
              cases hp : keepP x.o a b y <;> first
                | (simp; done)
                | (exfalso; unfold keepP at hp; simp_all)
        · skip
          refine aExit rfl ?_
          obtain rfl : k = x.ls.length := by omega
          rw [take_all (by omega)] at hls
          subst hls
          have hol : out.length ≤ 1000000 := by rw [ho, List.length_map, List.length_take]; omega
          refine aReg ?_
          refine sp pM ?_
          refine sr (by first | exact rBWa ty_141 | exact rBW ty_141 | exact rBA ty_141) ?_
          refine oWeak (weak_deep (k := 79) (b := .agg (lsaC (refNLl a b x))) rfl (.cons (by repeat constructor) .nil) (.agg (.same (.same (.sl List.mem_cons_self (by rw [List.length_map]; rfl) Deep.refl (.row .nil)))) (.row .nil))) ?_
          refine sq ?_
          refine qLit (l := [_]) rfl rfl (by decide) us_55 ty_141 ze_141 rfl (by decide) (by decide) rfl rfl rfl (fun b80 => ?_)
          refine sa ?_
          refine oAppT ([refNLl a b x] : List Lsa) rfl rfl (by repeat constructor) (srcOwn rfl (by repeat constructor) rfl) el_55 sl_55 (fun g81 k81 => ?_)
          refine sp pMa ?_
          refine oNil ?_
          refine aReg ?_
          refine sp pM ?_
          refine sp pAd ?_
          refine sp pMa ?_
          refine oNil ?_
          refine ⟨(i + 1, _, _, _), ?_, by (try dsimp only); omega, ⟨gInt rfl (by first | rfl | omega | simp), gLen rfl (by first | rfl | simp | (simp; omega)), rfl, rfl, rfl, trivial⟩, _, (by repeat constructor)⟩
          refine ⟨by omega, ?_⟩
          rw [take_step hx, List.map_append, ← ho]
          rfl
    · skip
      refine aExit rfl ?_
      refine aSeq ?_
      refine aReg ?_
      refine sp pM ?_
      refine sp pMa ?_
      refine oNil ?_
      refine aRet ?_
      refine finOwn rfl ?_
      rw [ho, take_all (by omega)]
      rfl
/- waymarkref45.NoNode -/
set_option maxRecDepth 100000 in
set_option maxHeartbeats 1000000 in
theorem ref45_NoNode {db : List Lsa} {n : Int} (hdl : db.length ≤ 1000000) : Triple Try.prog 70 [.sl 3 (db.map lsaC), .int n] [] (Own 141 3 ((refNN db n).map lsaC) []) := by
  refine triple_of Try.func70 rfl (by kernel_rfl) rfl (by simp) ?_
  refine aSeq ?_
  refine aReg ?_
  refine sp pMa ?_
  refine oNil ?_
  refine aSeq ?_
  refine aReg ?_
  refine sq ?_
  refine qLit (l := []) rfl rfl (by decide) us_55 ty_141 ze_141 rfl (by decide) (by decide) rfl rfl rfl (fun b7 => ?_)
  refine sp pMa ?_
  refine oNil ?_
  refine aSeq ?_
  refine aSeq ?_
  refine aReg ?_
  refine sp pMa ?_
  refine oNil ?_
  refine aBlock ?_
  refine loopF (α := Nat × List Lsa × Option Nat × Nat) (kept := [(0, _), (1, _)]) (fun (i, out, g, c) => i ≤ db.length ∧ out = (db.take i).filter (fun l => l.o != n)) (fun (i, out, g, c) => [(6, .int i), (5, .v (slV g out.length c))]) (fun (i, out, g, c) => [.sl g c 141 3 (out.map lsaC)]) (fun (i, out, g, c) => db.length - i) (0, [], _, _) ?_ ⟨gInt rfl (by first | rfl | omega | simp), gLen rfl (by first | rfl | simp | (simp; omega)), rfl, rfl, trivial⟩ (by repeat constructor) ?_
  · skip
    exact ⟨by omega, rfl⟩
  · rintro ⟨i, out, g, c⟩ ⟨hi, ho⟩
    refine aSeq ?_
    refine aSeq ?_
    refine aReg ?_
    refine sp pM ?_
    refine sp pM ?_
    refine sp (by first | exact pLm sl_55 | exact pLs sl_55) ?_
    refine sp pB ?_
    refine oNil ?_
    refine aCondDec rfl (fun c11 => ?_) (fun c11 => ?_)
    · skip
      refine aSkip ?_
      refine aSeq ?_
      refine aBlock ?_
      refine aSeq ?_
      obtain ⟨x, hx⟩ : ∃ z, db[i]? = some z := ⟨_, List.getElem?_eq_getElem (by omega)⟩
      refine aReg ?_
      refine sp pM ?_
      refine sp pM ?_
      first | refine sp (pIx es_55) ?_ | (refine obtSN 14 15 rfl rfl (by omega) (fun x16 hx16 => ?_); refine sp (pIs es_55 hx16) ?_) | (refine obtS 14 15 rfl rfl (by omega) (by omega) (fun x16 hx16 => ?_); refine sp (pIs es_55 hx16) ?_) | refine sp (pIo es_55) ?_
      refine sp (pFs fd_141_0) ?_
      refine sr (rS1 ty_3) ?_
      refine sp pM ?_
      refine sp pB ?_
      refine oNil ?_
      refine aCondNe rfl (fun c20 => ?_) (fun c20 => ?_)
      · skip
        have hol : out.length ≤ 1000000 := by have := filter_len (p := fun l : Lsa => l.o != n) (l := db) (i := i); rw [ho]; omega
        refine aReg ?_
        refine sp pM ?_
        refine sp pM ?_
        refine sp pM ?_
        first | refine sp (pIx es_55) ?_ | (refine obtSN 22 23 rfl rfl (by omega) (fun x24 hx24 => ?_); refine sp (pIs es_55 hx24) ?_) | (refine obtS 22 23 rfl rfl (by omega) (by omega) (fun x24 hx24 => ?_); refine sp (pIs es_55 hx24) ?_) | refine sp (pIo es_55) ?_
        refine sr (by first | exact rSW ty_141 rfl | exact rSA ty_141) ?_
        refine sq ?_
        refine qLit (l := [_]) rfl rfl (by decide) us_55 ty_141 ze_141 rfl (by decide) (by decide) rfl rfl rfl (fun b26 => ?_)
        refine sa ?_
        refine oAppT ([x] : List Lsa) rfl rfl (by repeat constructor) (srcOwn rfl (by repeat constructor) rfl) el_55 sl_55 (fun g27 k27 => ?_)
        refine sp pMa ?_
        refine oNil ?_
        refine aReg ?_
        refine sp pM ?_
        refine sp pAd ?_
        refine sp pMa ?_
        refine oNil ?_
        refine ⟨(i + 1, _, _, _), ?_, by (try dsimp only); omega, ⟨gInt rfl (by first | rfl | omega | simp), gLen rfl (by first | rfl | simp | (simp; omega)), rfl, rfl, trivial⟩, _, (by repeat constructor)⟩
        refine ⟨by omega, ?_⟩
        rw [filt_step hx, ← ho]
        cases hp : (x.o != n) <;> first
          | (simp; done)
          | (exfalso; simp_all)
      · skip
        refine aSkip ?_
        refine aReg ?_
        refine sp pM ?_
        refine sp pAd ?_
        refine sp pMa ?_
        refine oNil ?_
        refine ⟨(i + 1, _, _, _), ?_, by (try dsimp only); omega, ⟨gInt rfl (by first | rfl | omega | simp), gLen rfl (by first | rfl | simp | (simp; omega)), rfl, rfl, trivial⟩, _, (by repeat constructor)⟩
        refine ⟨by omega, ?_⟩
        rw [filt_step hx, ← ho]
        cases hp : (x.o != n) <;> first
          | (simp; done)
          | (exfalso; simp_all)
    · skip
      refine aExit rfl ?_
      refine aSeq ?_
      refine aReg ?_
      refine sp pM ?_
      refine sp pMa ?_
      refine oNil ?_
      refine aRet ?_
      refine finOwn rfl ?_
      rw [ho, take_all (by omega)]
      rfl
theorem ref45_NoLink_s {db : List Lsa} {a b : Int} (hdl : db.length ≤ 1000000) (hlk : ∀ x ∈ db, x.ls.length ≤ 1000000) : Triple Try.prog 69 [.sl 3 (db.map lsaC), .int a, .int b] [] (Is (.sl 3 ((refNL db a b).map lsaC)) []) := (ref45_NoLink (db := db) (a := a) (b := b) hdl hlk).settle
theorem ref45_NoNode_s {db : List Lsa} {n : Int} (hdl : db.length ≤ 1000000) : Triple Try.prog 70 [.sl 3 (db.map lsaC), .int n] [] (Is (.sl 3 ((refNN db n).map lsaC)) []) := (ref45_NoNode (db := db) (n := n) hdl).settle
def refP (lost : Bool) (a b : Rt) : Bool := if lost then decide (0 < a.nd) && b.nd == 0 else !(decide (a = b))
/- waymarkref45.routes -/
set_option maxRecDepth 100000 in
set_option maxHeartbeats 400000 in
theorem ref45_routes {db : List Lsa} {root : Int} (hdl : db.length ≤ 4000) (hlk : ∀ x ∈ db, x.ls.length ≤ 4000) : Triple Try.prog 153 [.sl 3 (db.map lsaC), .int root] [] (Is (.sl 3 ((rtsDb db root).map rtC)) []) := by
  refine triple_of Try.func153 rfl (by kernel_rfl) rfl (by simp) ?_
  refine aSeq ?_
  refine aReg ?_
  refine sp pMa ?_
  refine oNil ?_
  refine aSeq ?_
  refine aSeq ?_
  refine aReg ?_
  refine sp pM ?_
  refine sq ?_
  refine cv rfl rfl rfl (lents_refl _) (ref19_May_v (db := db) hdl hlk) ?_
  refine sp pNo ?_
  refine oNil ?_
  refine aCondNot rfl (fun c7 => ?_) (fun c7 => ?_)
  · skip
    refine aSeq ?_
    refine aReg ?_
    refine sp pMa ?_
    refine oNil ?_
    have hno : lsdbB 0 db = false := by simp_all
    refine aWeak (weak_nil 49 3) ?_
    refine aWeak (weak_settle (k := 4) (n := 0) (g := none) (c := 0) rfl .hd rfl) ?_
    refine aRet ?_
    refine finIs rfl ?_
    unfold rtsDb
    rw [hno]
    rfl
  · skip
    refine aSkip ?_
    refine aSeq ?_
    refine aReg ?_
    refine sp pM ?_
    refine sp pM ?_
    refine sq ?_
    refine ci rfl rfl rfl (ref26_Of_s (db := db) (me := root) (by simp_all)) ?_
    refine sp pMa ?_
    refine oNil ?_
    refine aRet ?_
    refine finIs rfl ?_
    rfl
/- waymarkref45.Turns -/
set_option maxRecDepth 100000 in
set_option maxHeartbeats 1000000 in
theorem ref45_Turns {x y : List Lsa} {r : Int} {lost : Bool} (hx : x.length ≤ 4000) (hxl : ∀ z ∈ x, z.ls.length ≤ 4000) (hy : y.length ≤ 4000) (hyl : ∀ z ∈ y, z.ls.length ≤ 4000) : Triple Try.prog 72 [.sl 3 (x.map lsaC), .sl 3 (y.map lsaC), .int r, .v (.bool lost)] [] (Own 3 1 ((thoseM (refP lost) (rtsDb x r) (rtsDb y r) 64).map intA) []) := by
  have hxr := rtsDb_len x r
  have hyr := rtsDb_len y r
  refine triple_of Try.func72 rfl (by kernel_rfl) rfl (by simp) ?_
  refine aSeq ?_
  refine aReg ?_
  refine sp pMa ?_
  refine oNil ?_
  refine aSeq ?_
  refine aReg ?_
  refine sp pM ?_
  refine sp pM ?_
  refine sq ?_
  refine ci rfl rfl rfl (ref45_routes (db := x) (root := r) hx hxl) ?_
  refine sp pM ?_
  refine sp pM ?_
  refine sq ?_
  refine ci rfl rfl rfl (ref45_routes (db := y) (root := r) hy hyl) ?_
  refine sp pMa ?_
  refine sp pMa ?_
  refine oNil ?_
  refine aSeq ?_
  refine aReg ?_
  refine sq ?_
  refine qLit (l := []) rfl rfl (by decide) us_25 ty_3 ze_3 rfl (by decide) (by decide) rfl rfl rfl (fun b21 => ?_)
  refine sp pMa ?_
  refine oNil ?_
  refine aSeq ?_
  refine aSeq ?_
  refine aReg ?_
  refine sp pMa ?_
  refine oNil ?_
  refine aBlock ?_
  refine loopF (α := Nat × List Int × Option Nat × Nat) (kept := [(3, _), (9, _), (10, _)]) (fun (n, out, g, c) => n ≤ 64 ∧ out = thoseM (refP lost) (rtsDb x r) (rtsDb y r) n) (fun (n, out, g, c) => [(12, .int ((n + 1 : Nat) : Int)), (11, .v (slV g out.length c))]) (fun (n, out, g, c) => [.sl g c 3 1 (out.map intA)]) (fun (n, out, g, c) => 64 - n) (0, [], _, _) ?_ ⟨gInt rfl (by first | rfl | omega | simp), gLen rfl (by first | rfl | simp | (simp; omega)), rfl, rfl, rfl, trivial⟩ (by repeat constructor) ?_
  · skip
    exact ⟨by omega, rfl⟩
  · rintro ⟨n, out, g, c⟩ ⟨hn, ho⟩
    refine aSeq ?_
    refine aSeq ?_
    refine aReg ?_
    refine sp pM ?_
    refine sp pB ?_
    refine oNil ?_
    refine aCondDec rfl (fun c23 => ?_) (fun c23 => ?_)
    · skip
      refine aSkip ?_
      refine aSeq ?_
      refine aBlock ?_
      refine aSeq ?_
      refine aReg ?_
      refine sp pM ?_
      refine sp pM ?_
      refine sq ?_
      refine ci rfl rfl rfl (ref26_Find (rs := rtsDb x r) (n := ((n + 1 : Nat) : Int)) (by omega)) ?_
      refine sp pM ?_
      refine sp pM ?_
      refine sq ?_
      refine ci rfl rfl rfl (ref26_Find (rs := rtsDb y r) (n := ((n + 1 : Nat) : Int)) (by omega)) ?_
      refine sq ?_
      refine qAlloc rfl rfl (by decide) ze_49 rfl (fun b13 => ?_)
      refine sq ?_
      refine qAlloc rfl rfl (by decide) ze_49 rfl (fun b14 => ?_)
      refine sa ?_
      refine oStW rfl rfl rfl rfl (by repeat constructor) ty_49 ?_
      refine sa ?_
      refine oStW rfl rfl rfl rfl (by repeat constructor) ty_49 ?_
      refine oNil ?_
      refine aSeq ?_
      refine aReg ?_
      refine sp pM ?_
      refine sp pM ?_
      refine oSplit 33 rfl (fun c33 => ?_) (fun c33 => ?_)
      · skip
        refine gp (pFb fd_49_0) ?_
        refine gr (rB1 ty_3) ?_
        refine gp pB ?_
        refine sp pK ?_
        refine sp pM ?_
        refine oSplitDec 38 rfl (fun c38 => ?_) (fun c38 => ?_)
        · skip
          refine gp (pFb fd_49_0) ?_
          refine gr (rB1 ty_3) ?_
          refine gp pB ?_
          refine sp pK ?_
          refine sp pM ?_
          refine oSplitEq 43 rfl (fun c43 => ?_) (fun c43 => ?_)
          · skip
            refine gf ?_
            refine gf ?_
            refine gf ?_
            refine gf ?_
            refine gf ?_
            refine gf ?_
            refine gf ?_
            refine sp pK ?_
            refine oNil ?_
            refine aCondT rfl ?_
            have hol := those_len (p := refP lost) (x := rtsDb x r) (y := rtsDb y r) (m := n)
            rw [← ho] at hol
            refine aReg ?_
            refine sp pM ?_
            refine sp pM ?_
            refine sq ?_
            refine qLit (l := [_]) rfl rfl (by decide) us_25 ty_3 ze_3 rfl (by decide) (by decide) rfl rfl rfl (fun b54 => ?_)
            refine sa ?_
            refine oAppT ([((n + 1 : Nat) : Int)] : List Int) rfl rfl (by repeat constructor) (srcOwn rfl (by repeat constructor) rfl) el_25 sl_25 (fun g55 k55 => ?_)
            refine sp pMa ?_
            refine oNil ?_
            refine aReg ?_
            refine sp pM ?_
            refine sp pAd ?_
            refine sp pMa ?_
            refine oNil ?_
            refine ⟨(n + 1, _, _, _), ?_, by (try dsimp only); omega, ⟨gInt rfl (by first | rfl | omega | simp), gLen rfl (by first | rfl | simp | (simp; omega)), rfl, rfl, rfl, trivial⟩, _, (by repeat constructor)⟩
            refine ⟨by omega, ?_⟩
            rw [those_step, ← ho]
            cases hp : refP lost (findG (rtsDb x r) ((n + 1 : Nat) : Int)) (findG (rtsDb y r) ((n + 1 : Nat) : Int)) <;> first
              | (simp; done)
              | (exfalso; unfold refP at hp; simp_all; done)
              | (exfalso; unfold refP at hp; simp_all; omega)
              | (exfalso; unfold refP at hp; generalize findG (rtsDb x r) ((n + 1 : Nat) : Int) = u at *; generalize findG (rtsDb y r) ((n + 1 : Nat) : Int) = v at *; cases u; cases v; simp_all)
          · skip
            refine gp pM ?_
            refine gp pNo ?_
            refine gp pM ?_
            refine oSplitNot 46 rfl (fun c46 => ?_) (fun c46 => ?_)
            · skip
              refine gr (by first | exact rBWa ty_49 | exact rBW ty_49 | exact rBA ty_49) ?_
              refine gr (by first | exact rBWa ty_49 | exact rBW ty_49 | exact rBA ty_49) ?_
              refine gp (pEqAn eq_49) ?_
              refine gp pK ?_
              refine sp pK ?_
              refine oNil ?_
              refine aCond rfl (fun c51 => ?_) (fun c51 => ?_)
              · skip
                have hol := those_len (p := refP lost) (x := rtsDb x r) (y := rtsDb y r) (m := n)
                rw [← ho] at hol
                refine aReg ?_
                refine sp pM ?_
                refine sp pM ?_
                refine sq ?_
                refine qLit (l := [_]) rfl rfl (by decide) us_25 ty_3 ze_3 rfl (by decide) (by decide) rfl rfl rfl (fun b54 => ?_)
                refine sa ?_
                refine oAppT ([((n + 1 : Nat) : Int)] : List Int) rfl rfl (by repeat constructor) (srcOwn rfl (by repeat constructor) rfl) el_25 sl_25 (fun g55 k55 => ?_)
                refine sp pMa ?_
                refine oNil ?_
                refine aReg ?_
                refine sp pM ?_
                refine sp pAd ?_
                refine sp pMa ?_
                refine oNil ?_
                refine ⟨(n + 1, _, _, _), ?_, by (try dsimp only); omega, ⟨gInt rfl (by first | rfl | omega | simp), gLen rfl (by first | rfl | simp | (simp; omega)), rfl, rfl, rfl, trivial⟩, _, (by repeat constructor)⟩
                refine ⟨by omega, ?_⟩
                rw [those_step, ← ho]
                cases hp : refP lost (findG (rtsDb x r) ((n + 1 : Nat) : Int)) (findG (rtsDb y r) ((n + 1 : Nat) : Int)) <;> first
                  | (simp; done)
                  | (exfalso; unfold refP at hp; simp_all; done)
                  | (exfalso; unfold refP at hp; simp_all; omega)
                  | (exfalso; unfold refP at hp; generalize findG (rtsDb x r) ((n + 1 : Nat) : Int) = u at *; generalize findG (rtsDb y r) ((n + 1 : Nat) : Int) = v at *; cases u; cases v; simp_all)
              · skip
                refine aSkip ?_
                refine aReg ?_
                refine sp pM ?_
                refine sp pAd ?_
                refine sp pMa ?_
                refine oNil ?_
                refine ⟨(n + 1, _, _, _), ?_, by (try dsimp only); omega, ⟨gInt rfl (by first | rfl | omega | simp), gLen rfl (by first | rfl | simp | (simp; omega)), rfl, rfl, rfl, trivial⟩, _, (by repeat constructor)⟩
                refine ⟨by omega, ?_⟩
                rw [those_step, ← ho]
                cases hp : refP lost (findG (rtsDb x r) ((n + 1 : Nat) : Int)) (findG (rtsDb y r) ((n + 1 : Nat) : Int)) <;> first
                  | (simp; done)
                  | (exfalso; unfold refP at hp; simp_all; done)
                  | (exfalso; unfold refP at hp; simp_all; omega)
                  | (exfalso; unfold refP at hp; generalize findG (rtsDb x r) ((n + 1 : Nat) : Int) = u at *; generalize findG (rtsDb y r) ((n + 1 : Nat) : Int) = v at *; cases u; cases v; simp_all)
            · skip
              refine gf ?_
              refine gf ?_
              refine gf ?_
              refine gp pK ?_
              refine sp pK ?_
              refine oNil ?_
              refine aCondF rfl ?_
              refine aSkip ?_
              refine aReg ?_
              refine sp pM ?_
              refine sp pAd ?_
              refine sp pMa ?_
              refine oNil ?_
              refine ⟨(n + 1, _, _, _), ?_, by (try dsimp only); omega, ⟨gInt rfl (by first | rfl | omega | simp), gLen rfl (by first | rfl | simp | (simp; omega)), rfl, rfl, rfl, trivial⟩, _, (by repeat constructor)⟩
              refine ⟨by omega, ?_⟩
              rw [those_step, ← ho]
              cases hp : refP lost (findG (rtsDb x r) ((n + 1 : Nat) : Int)) (findG (rtsDb y r) ((n + 1 : Nat) : Int)) <;> first
                | (simp; done)
                | (exfalso; unfold refP at hp; simp_all; done)
                | (exfalso; unfold refP at hp; simp_all; omega)
                | (exfalso; unfold refP at hp; generalize findG (rtsDb x r) ((n + 1 : Nat) : Int) = u at *; generalize findG (rtsDb y r) ((n + 1 : Nat) : Int) = v at *; cases u; cases v; simp_all)
        · skip
          refine gf ?_
          refine gf ?_
          refine gf ?_
          refine sp pK ?_
          refine sp pM ?_
          refine gp pM ?_
          refine gp pNo ?_
          refine gp pM ?_
          refine oSplitNot 46 rfl (fun c46 => ?_) (fun c46 => ?_)
          · skip
            refine gr (by first | exact rBWa ty_49 | exact rBW ty_49 | exact rBA ty_49) ?_
            refine gr (by first | exact rBWa ty_49 | exact rBW ty_49 | exact rBA ty_49) ?_
            refine gp (pEqAn eq_49) ?_
            refine gp pK ?_
            refine sp pK ?_
            refine oNil ?_
            refine aCond rfl (fun c51 => ?_) (fun c51 => ?_)
            · skip
              have hol := those_len (p := refP lost) (x := rtsDb x r) (y := rtsDb y r) (m := n)
              rw [← ho] at hol
              refine aReg ?_
              refine sp pM ?_
              refine sp pM ?_
              refine sq ?_
              refine qLit (l := [_]) rfl rfl (by decide) us_25 ty_3 ze_3 rfl (by decide) (by decide) rfl rfl rfl (fun b54 => ?_)
              refine sa ?_
              refine oAppT ([((n + 1 : Nat) : Int)] : List Int) rfl rfl (by repeat constructor) (srcOwn rfl (by repeat constructor) rfl) el_25 sl_25 (fun g55 k55 => ?_)
              refine sp pMa ?_
              refine oNil ?_
              refine aReg ?_
              refine sp pM ?_
              refine sp pAd ?_
              refine sp pMa ?_
              refine oNil ?_
              refine ⟨(n + 1, _, _, _), ?_, by (try dsimp only); omega, ⟨gInt rfl (by first | rfl | omega | simp), gLen rfl (by first | rfl | simp | (simp; omega)), rfl, rfl, rfl, trivial⟩, _, (by repeat constructor)⟩
              refine ⟨by omega, ?_⟩
              rw [those_step, ← ho]
              cases hp : refP lost (findG (rtsDb x r) ((n + 1 : Nat) : Int)) (findG (rtsDb y r) ((n + 1 : Nat) : Int)) <;> first
                | (simp; done)
                | (exfalso; unfold refP at hp; simp_all; done)
                | (exfalso; unfold refP at hp; simp_all; omega)
                | (exfalso; unfold refP at hp; generalize findG (rtsDb x r) ((n + 1 : Nat) : Int) = u at *; generalize findG (rtsDb y r) ((n + 1 : Nat) : Int) = v at *; cases u; cases v; simp_all)
            · skip
              refine aSkip ?_
              refine aReg ?_
              refine sp pM ?_
              refine sp pAd ?_
              refine sp pMa ?_
              refine oNil ?_
              refine ⟨(n + 1, _, _, _), ?_, by (try dsimp only); omega, ⟨gInt rfl (by first | rfl | omega | simp), gLen rfl (by first | rfl | simp | (simp; omega)), rfl, rfl, rfl, trivial⟩, _, (by repeat constructor)⟩
              refine ⟨by omega, ?_⟩
              rw [those_step, ← ho]
              cases hp : refP lost (findG (rtsDb x r) ((n + 1 : Nat) : Int)) (findG (rtsDb y r) ((n + 1 : Nat) : Int)) <;> first
                | (simp; done)
                | (exfalso; unfold refP at hp; simp_all; done)
                | (exfalso; unfold refP at hp; simp_all; omega)
                | (exfalso; unfold refP at hp; generalize findG (rtsDb x r) ((n + 1 : Nat) : Int) = u at *; generalize findG (rtsDb y r) ((n + 1 : Nat) : Int) = v at *; cases u; cases v; simp_all)
          · skip
            refine gf ?_
            refine gf ?_
            refine gf ?_
            refine gp pK ?_
            refine sp pK ?_
            refine oNil ?_
            refine aCondF rfl ?_
            refine aSkip ?_
            refine aReg ?_
            refine sp pM ?_
            refine sp pAd ?_
            refine sp pMa ?_
            refine oNil ?_
            refine ⟨(n + 1, _, _, _), ?_, by (try dsimp only); omega, ⟨gInt rfl (by first | rfl | omega | simp), gLen rfl (by first | rfl | simp | (simp; omega)), rfl, rfl, rfl, trivial⟩, _, (by repeat constructor)⟩
            refine ⟨by omega, ?_⟩
            rw [those_step, ← ho]
            cases hp : refP lost (findG (rtsDb x r) ((n + 1 : Nat) : Int)) (findG (rtsDb y r) ((n + 1 : Nat) : Int)) <;> first
              | (simp; done)
              | (exfalso; unfold refP at hp; simp_all; done)
              | (exfalso; unfold refP at hp; simp_all; omega)
              | (exfalso; unfold refP at hp; generalize findG (rtsDb x r) ((n + 1 : Nat) : Int) = u at *; generalize findG (rtsDb y r) ((n + 1 : Nat) : Int) = v at *; cases u; cases v; simp_all)
      · skip
        refine gf ?_
        refine gf ?_
        refine gf ?_
        refine sp pK ?_
        refine sp pM ?_
        refine gf ?_
        refine gf ?_
        refine gf ?_
        refine sp pK ?_
        refine sp pM ?_
        refine gp pM ?_
        refine gp pNo ?_
        refine gp pM ?_
        refine oSplitNot 46 rfl (fun c46 => ?_) (fun c46 => ?_)
        · skip
          refine gr (by first | exact rBWa ty_49 | exact rBW ty_49 | exact rBA ty_49) ?_
          refine gr (by first | exact rBWa ty_49 | exact rBW ty_49 | exact rBA ty_49) ?_
          refine gp (pEqAn eq_49) ?_
          refine gp pK ?_
          refine sp pK ?_
          refine oNil ?_
          refine aCond rfl (fun c51 => ?_) (fun c51 => ?_)
          · skip
            have hol := those_len (p := refP lost) (x := rtsDb x r) (y := rtsDb y r) (m := n)
            rw [← ho] at hol
            refine aReg ?_
            refine sp pM ?_
            refine sp pM ?_
            refine sq ?_
            refine qLit (l := [_]) rfl rfl (by decide) us_25 ty_3 ze_3 rfl (by decide) (by decide) rfl rfl rfl (fun b54 => ?_)
            refine sa ?_
            refine oAppT ([((n + 1 : Nat) : Int)] : List Int) rfl rfl (by repeat constructor) (srcOwn rfl (by repeat constructor) rfl) el_25 sl_25 (fun g55 k55 => ?_)
            refine sp pMa ?_
            refine oNil ?_
            refine aReg ?_
            refine sp pM ?_
            refine sp pAd ?_
            refine sp pMa ?_
            refine oNil ?_
            refine ⟨(n + 1, _, _, _), ?_, by (try dsimp only); omega, ⟨gInt rfl (by first | rfl | omega | simp), gLen rfl (by first | rfl | simp | (simp; omega)), rfl, rfl, rfl, trivial⟩, _, (by repeat constructor)⟩
            refine ⟨by omega, ?_⟩
            rw [those_step, ← ho]
            cases hp : refP lost (findG (rtsDb x r) ((n + 1 : Nat) : Int)) (findG (rtsDb y r) ((n + 1 : Nat) : Int)) <;> first
              | (simp; done)
              | (exfalso; unfold refP at hp; simp_all; done)
              | (exfalso; unfold refP at hp; simp_all; omega)
              | (exfalso; unfold refP at hp; generalize findG (rtsDb x r) ((n + 1 : Nat) : Int) = u at *; generalize findG (rtsDb y r) ((n + 1 : Nat) : Int) = v at *; cases u; cases v; simp_all)
          · skip
            refine aSkip ?_
            refine aReg ?_
            refine sp pM ?_
            refine sp pAd ?_
            refine sp pMa ?_
            refine oNil ?_
            refine ⟨(n + 1, _, _, _), ?_, by (try dsimp only); omega, ⟨gInt rfl (by first | rfl | omega | simp), gLen rfl (by first | rfl | simp | (simp; omega)), rfl, rfl, rfl, trivial⟩, _, (by repeat constructor)⟩
            refine ⟨by omega, ?_⟩
            rw [those_step, ← ho]
            cases hp : refP lost (findG (rtsDb x r) ((n + 1 : Nat) : Int)) (findG (rtsDb y r) ((n + 1 : Nat) : Int)) <;> first
              | (simp; done)
              | (exfalso; unfold refP at hp; simp_all; done)
              | (exfalso; unfold refP at hp; simp_all; omega)
              | (exfalso; unfold refP at hp; generalize findG (rtsDb x r) ((n + 1 : Nat) : Int) = u at *; generalize findG (rtsDb y r) ((n + 1 : Nat) : Int) = v at *; cases u; cases v; simp_all)
        · skip
          refine gf ?_
          refine gf ?_
          refine gf ?_
          refine gp pK ?_
          refine sp pK ?_
          refine oNil ?_
          refine aCondF rfl ?_
          refine aSkip ?_
          refine aReg ?_
          refine sp pM ?_
          refine sp pAd ?_
          refine sp pMa ?_
          refine oNil ?_
          refine ⟨(n + 1, _, _, _), ?_, by (try dsimp only); omega, ⟨gInt rfl (by first | rfl | omega | simp), gLen rfl (by first | rfl | simp | (simp; omega)), rfl, rfl, rfl, trivial⟩, _, (by repeat constructor)⟩
          refine ⟨by omega, ?_⟩
          rw [those_step, ← ho]
          cases hp : refP lost (findG (rtsDb x r) ((n + 1 : Nat) : Int)) (findG (rtsDb y r) ((n + 1 : Nat) : Int)) <;> first
            | (simp; done)
            | (exfalso; unfold refP at hp; simp_all; done)
            | (exfalso; unfold refP at hp; simp_all; omega)
            | (exfalso; unfold refP at hp; generalize findG (rtsDb x r) ((n + 1 : Nat) : Int) = u at *; generalize findG (rtsDb y r) ((n + 1 : Nat) : Int) = v at *; cases u; cases v; simp_all)
    · skip
      refine aExit rfl ?_
      refine aSeq ?_
      refine aReg ?_
      refine sp pM ?_
      refine sp pMa ?_
      refine oNil ?_
      refine aRet ?_
      refine finOwn rfl ?_
      obtain rfl : n = 64 := by omega
      rw [ho]
theorem ref45_Turns_s {x y : List Lsa} {r : Int} {lost : Bool} (hx : x.length ≤ 4000) (hxl : ∀ z ∈ x, z.ls.length ≤ 4000) (hy : y.length ≤ 4000) (hyl : ∀ z ∈ y, z.ls.length ≤ 4000) : Triple Try.prog 72 [.sl 3 (x.map lsaC), .sl 3 (y.map lsaC), .int r, .v (.bool lost)] [] (Is (.sl 1 ((thoseM (refP lost) (rtsDb x r) (rtsDb y r) 64).map intA)) []) := (ref45_Turns (x := x) (y := y) (r := r) (lost := lost) hx hxl hy hyl).settle
theorem refNL_len (db : List Lsa) (a b : Int) : (refNL db a b).length = db.length := by unfold refNL; simp
theorem refNL_lk {db : List Lsa} {m : Nat} (h : ∀ x ∈ db, x.ls.length ≤ m) (a b : Int) : ∀ x ∈ refNL db a b, x.ls.length ≤ m := fun x hx => by
  unfold refNL refNLl at hx
  obtain ⟨y, hy, rfl⟩ := List.mem_map.1 hx
  exact Nat.le_trans (List.length_filter_le _ _) (h y hy)
def refLostN (db : List Lsa) (root : Int) (e : Ed) : Nat := (thoseM (refP true) (rtsDb db root) (rtsDb (refNL db e.a e.b) root) 64).length
theorem ref39_Edges_s {l : List Arc} (hok : arcsB none l = true) (hll : l.length ≤ 5000 := by omega) : Triple Try.prog 90 [.sl 3 (l.map arcC)] [] (Is (.sl 3 ((edgesM l).map edC)) []) := by
  have h := (ref39_Edges (l := l) hll).settle
  rw [edges_ref hok] at h
  exact h
theorem ref24_ArcsDb {db : List Lsa} (hv : lsdbB 0 db = true) (hl : db.length ≤ 70) (hm : ∀ x ∈ db, x.ls.length ≤ 40) : Triple Try.prog 58 [.sl 3 (db.map lsaC)] [] (Is (.sl 3 ((arcsDb db).map arcC)) []) := by
  have h := ref24_Arcs_s hl hm
  rw [dbArcs_ref hv] at h
  exact h
/- waymarkref45.Worst -/
def ref45_Worst_r7_T : Bool × List (List Nat × List Nat) := (true, [([], []), ([], []), ([], []), ([], []), ([2, 3], [2, 3]), ([4], [4]), ([5], [5]), ([], []), ([], []), ([7, 8], [7, 8]), ([9], [9]), ([10], [10]), ([1, 6, 11], [1, 6, 11]), ([], []), ([0, 12, 13, 12], [0, 12, 13]), ([14], [14]), ([15, 14, 0, 1, 2, 3, 4, 5, 6, 7, 8, 9, 10, 11, 12, 13, 14, 15], [15])])
def ref45_Worst_r7_B : List Nat := [0, 0, 0, 0, 12, 28, 60, 0, 0, 384, 896, 1920, 4094, 0, 16383, 32767, 65535]
theorem ref45_Worst_r7_t : Go.Proofs.YtmcannmjielalaaW.PrintLast.rtab .any (Go.Proofs.YtmcannmjielalaaW.PrintLast.opsOf Try.f67 7) = ref45_Worst_r7_T := by kernel_rfl
theorem ref45_Worst_r7_b : Go.Proofs.YtmcannmjielalaaW.PrintLast.waitsOk ref45_Worst_r7_T.2 ref45_Worst_r7_B = true := by kernel_rfl
set_option maxRecDepth 100000 in
set_option maxHeartbeats 1000000 in
theorem ref45_Worst {db : List Lsa} {root : Int} (hv : lsdbB 0 db = true) (hdl : db.length ≤ 70) (hlk : ∀ x ∈ db, x.ls.length ≤ 40) : Triple Try.prog 67 [.sl 3 (db.map lsaC), .int root] [] (Is (.tup [.agg (edC (refWorst (refLostN db root) (edgesM (arcsDb db))).1), .int (refWorst (refLostN db root) (edgesM (arcsDb db))).2]) []) := by
  have hal := arcsDb_len db
  have hel := edgesM_len (arcsDb db)
  have hl4 : ∀ x ∈ db, x.ls.length ≤ 4000 := fun x hx => by have := hlk x hx; omega
  refine triple_ofR Try.func67 rfl (by kernel_rfl) rfl (by simp) ?_
  refine aSeq ?_
  refine aReg ?_
  refine sq ?_
  refine qAlloc rfl rfl (by decide) ze_73 rfl (fun b4 => ?_)
  refine sp pMa ?_
  refine oNil ?_
  refine aSeq ?_
  refine aReg ?_
  refine sp pM ?_
  refine sq ?_
  refine ci rfl rfl rfl (ref24_ArcsDb (db := db) hv hdl hlk) ?_
  refine sq ?_
  refine ci rfl rfl rfl (ref39_Edges_s (l := arcsDb db) (dbArcs_ok hv) (by omega)) ?_
  refine sp pMa ?_
  refine oNil ?_
  refine aSeq ?_
  refine aReg ?_
  refine sp (pBuild rfl st_73 ze_73 rfl rfl rfl rfl) ?_
  refine sq ?_
  refine qAlloc rfl rfl (by decide) ze_73 rfl (fun b7 => ?_)
  refine sa ?_
  refine oStW rfl rfl rfl rfl (by repeat constructor) ty_73 ?_
  refine oNil ?_
  refine aSeq ?_
  refine aReg ?_
  refine sp pMa ?_
  refine oNil ?_
  refine aSeq ?_
  refine aSeq ?_
  refine aReg ?_
  refine sp pM ?_
  refine sp (by first | exact pLm sl_104 | exact pLs sl_104 | exact pLv sl_104) ?_
  refine sp pSu ?_
  refine sp pMa ?_
  refine oNil ?_
  refine aBlock ?_
  refine loopF (α := Nat × (Ed × Nat)) (kept := [(0, _), (1, _), (4, _), (6, _), (7, _)]) (fun (i, s) => i ≤ (edgesM (arcsDb db)).length ∧ s = refWorst (refLostN db root) ((edgesM (arcsDb db)).drop i)) (fun (i, s) => [(9, .int ((i : Int) - 1)), (8, .int s.2)]) (fun (i, s) => [.box b7 (edC s.1)]) (fun (i, s) => i) ((edgesM (arcsDb db)).length, (edZ, 0)) ?_ ⟨gInt rfl (by first | rfl | omega | simp), gInt rfl (by first | rfl | omega | simp), rfl, rfl, rfl, rfl, rfl, trivial⟩ (by repeat constructor) ?_
  · skip
    exact ⟨by omega, by rw [List.drop_length]; rfl⟩
  · rintro ⟨i, s⟩ ⟨hi, hs⟩
    refine aSeq ?_
    refine aSeq ?_
    refine aReg ?_
    refine sp pM ?_
    refine sp pB ?_
    refine oNil ?_
    refine aCondDec rfl (fun c19 => ?_) (fun c19 => ?_)
    · skip
      refine aSkip ?_
      refine aSeq ?_
      refine aBlock ?_
      refine aSeq ?_
      obtain ⟨e, he⟩ : ∃ z, (edgesM (arcsDb db))[i - 1]? = some z := ⟨_, List.getElem?_eq_getElem (by omega)⟩
      have he2 : (edgesM (arcsDb db))[((i : Int) - 1).toNat]? = some e := by rw [show ((i : Int) - 1).toNat = i - 1 by omega]; exact he
      refine aDrawT ref45_Worst_r7_t ref45_Worst_r7_b [] 17 #[false, false, false, false, false, false, false, false, false, false, false, false, false, false, false, false, false] (by kernel_rfl) rfl rfl (fun HT => ?_)
      refine dp HT 0 rfl pM ?_
      refine dp HT 1 rfl pM ?_
      refine dp HT 2 rfl pM ?_
      refine dp HT 3 rfl pM ?_
      first | refine dp HT 4 rfl (pIx es_104) ?_ | (refine obtDN 24 25 rfl rfl (by omega) (fun x26 hx26 => ?_); refine dp HT 4 rfl (pIs es_104 hx26) ?_) | (refine obtD 24 25 rfl rfl (by omega) (by omega) (fun x26 hx26 => ?_); refine dp HT 4 rfl (pIs es_104 hx26) ?_) | refine dp HT 4 rfl (pIo es_104) ?_
      refine dp HT 5 rfl (by first | exact pFb fd_73_0 | exact pFs fd_73_0) ?_
      refine dr HT 6 rfl (by first | exact rS1 ty_3 | exact rB1 ty_3 | exact rAr ty_3 | exact rArL ty_3 | exact rArR2 ty_3) ?_
      refine dp HT 7 rfl pM ?_
      refine dp HT 8 rfl pM ?_
      first | refine dp HT 9 rfl (pIx es_104) ?_ | (refine obtDN 29 30 rfl rfl (by omega) (fun x31 hx31 => ?_); refine dp HT 9 rfl (pIs es_104 hx31) ?_) | (refine obtD 29 30 rfl rfl (by omega) (by omega) (fun x31 hx31 => ?_); refine dp HT 9 rfl (pIs es_104 hx31) ?_) | refine dp HT 9 rfl (pIo es_104) ?_
      refine dp HT 10 rfl (by first | exact pFb fd_73_1 | exact pFs fd_73_1) ?_
      refine dr HT 11 rfl (by first | exact rS1 ty_3 | exact rB1 ty_3 | exact rAr ty_3 | exact rArL ty_3 | exact rArR2 ty_3) ?_
      refine dp HT 13 rfl pM ?_
      refine dGo ?_
      refine e1 HT 12 rfl ?_
      refine ci rfl rfl rfl (ref45_NoLink_s (db := db) (a := e.a) (b := e.b) (by omega) (fun x hx => by have := hlk x hx; omega)) ?_
      refine e1 HT 14 rfl ?_
      refine ci rfl rfl rfl (ref45_Turns_s (x := db) (y := refNL db e.a e.b) (r := root) (lost := true) (by omega) hl4 (by rw [refNL_len]; omega) (refNL_lk hl4 e.a e.b)) ?_
      refine ef HT 15 rfl (by first | exact pLm sl_25 | exact pLs sl_25 | exact pLv sl_25) ?_
      refine ef HT 16 rfl pMa ?_
      refine eE HT ?_
      clear HT
      refine aSeq ?_
      have hst := refW_step (n := refLostN db root) he
      rw [show i - 1 + 1 = i by omega] at hst
      have hln : (thoseM (refP true) (rtsDb db root) (rtsDb (refNL db e.a e.b) root) 64).length = refLostN db root e := rfl
      refine aReg ?_
      refine sp pM ?_
      refine sp pM ?_
      refine sp pB ?_
      refine sp pM ?_
      refine oSplitDec 41 rfl (fun c41 => ?_) (fun c41 => ?_)
      · skip
        refine gp pM ?_
        refine gp pB ?_
        refine sp pK ?_
        refine oNil ?_
        refine aCondDec rfl (fun c44 => ?_) (fun c44 => ?_)
        · skip
          refine aReg ?_
          refine sp pM ?_
          refine sp pM ?_
          first | refine sp (pIx es_104) ?_ | (refine obtSN 45 46 rfl rfl (by omega) (fun x47 hx47 => ?_); refine sp (pIs es_104 hx47) ?_) | (refine obtS 45 46 rfl rfl (by omega) (by omega) (fun x47 hx47 => ?_); refine sp (pIs es_104 hx47) ?_) | refine sp (pIo es_104) ?_
          refine sr (by first | exact rSW ty_73 rfl | exact rSA ty_73 | exact rBWa ty_73 | exact rBW ty_73 | exact rBA ty_73 | exact rArA ty_73 (fun _ => rfl)) ?_
          refine sp pM ?_
          refine sa ?_
          refine oStW rfl rfl rfl rfl (by repeat constructor) ty_73 ?_
          refine sp pMa ?_
          refine oNil ?_
          refine aReg ?_
          refine sp pM ?_
          refine sp pSu ?_
          refine sp pMa ?_
          refine oNil ?_
          refine ⟨(i - 1, (_, _)), ?_, by (try dsimp only); omega, ⟨gInt rfl (by first | rfl | omega | simp), gInt rfl (by first | rfl | omega | simp), rfl, rfl, rfl, rfl, rfl, trivial⟩, _, (by repeat constructor)⟩
          refine ⟨by omega, ?_⟩
          rw [hst, ← hs]
          unfold rStep
          first
            | exact (if_pos (by omega)).symm
            | exact (if_neg (by omega)).symm
        · skip
          refine aSkip ?_
          refine aReg ?_
          refine sp pM ?_
          refine sp pSu ?_
          refine sp pMa ?_
          refine oNil ?_
          refine ⟨(i - 1, (_, _)), ?_, by (try dsimp only); omega, ⟨gInt rfl (by first | rfl | omega | simp), gInt rfl (by first | rfl | omega | simp), rfl, rfl, rfl, rfl, rfl, trivial⟩, _, (by repeat constructor)⟩
          refine ⟨by omega, ?_⟩
          rw [hst, ← hs]
          unfold rStep
          first
            | exact (if_pos (by omega)).symm
            | exact (if_neg (by omega)).symm
      · skip
        refine gf ?_
        refine gf ?_
        refine sp pK ?_
        refine oNil ?_
        refine aCondF rfl ?_
        refine aSkip ?_
        refine aReg ?_
        refine sp pM ?_
        refine sp pSu ?_
        refine sp pMa ?_
        refine oNil ?_
        refine ⟨(i - 1, (_, _)), ?_, by (try dsimp only); omega, ⟨gInt rfl (by first | rfl | omega | simp), gInt rfl (by first | rfl | omega | simp), rfl, rfl, rfl, rfl, rfl, trivial⟩, _, (by repeat constructor)⟩
        refine ⟨by omega, ?_⟩
        rw [hst, ← hs]
        unfold rStep
        first
          | exact (if_pos (by omega)).symm
          | exact (if_neg (by omega)).symm
    · skip
      refine aExit rfl ?_
      refine aSeq ?_
      refine aReg ?_
      refine sr (by first | exact rBWa ty_73 | exact rBW ty_73 | exact rBA ty_73) ?_
      refine sp pM ?_
      refine sa ?_
      refine oStW rfl rfl rfl rfl (by repeat constructor) ty_73 ?_
      refine sp pMa ?_
      refine oNil ?_
      refine aRet ?_
      refine finRIs (l := [.agg (edC s.1), .int s.2]) (.cons (.cellA rfl (by repeat (first | exact List.mem_cons_self | apply List.mem_cons_of_mem)) ty_73) (.cons (.tmp rfl) .nil)) ?_
      obtain rfl : i = 0 := by omega
      rw [hs, List.drop_zero]
      rfl
end A
end Go.Proofs.Ytmcannmjielalaa
set_option linter.unusedVariables false
set_option linter.unusedSimpArgs false
namespace Go.Proofs.Ytmcannmjielalaa
namespace A
theorem lsdbB_of : ∀ {l : List Lsa} {last : Int}, (∀ x ∈ l, last < x.o ∧ lsaB x = true) → l.Pairwise (fun x y => x.o < y.o) → lsdbB last l = true
  | [], _, _, _ => by unfold lsdbB; rfl
  | y :: l, last, h, hp => by
    rw [List.pairwise_cons] at hp
    have ih := lsdbB_of (last := y.o) (fun x hx => ⟨hp.1 x hx, (h x (by simp [hx])).2⟩) hp.2
    have := h y (by simp)
    simp only [lsdbB, Bool.and_eq_true, decide_eq_true_eq]
    exact ⟨⟨this.2, this.1⟩, ih⟩
theorem linksB_of {o : Int} : ∀ {l : List Link} {last : Int}, (∀ x ∈ l, last < x.t ∧ nodeB x.t = true ∧ x.t ≠ o ∧ 1 ≤ x.c ∧ x.c ≤ 1073741824) → l.Pairwise (fun x y => x.t < y.t) → linksB o last l = true
  | [], _, _, _ => by unfold linksB; rfl
  | y :: l, last, h, hp => by
    rw [List.pairwise_cons] at hp
    have ih := linksB_of (o := o) (last := y.t) (fun x hx => ⟨hp.1 x hx, (h x (by simp [hx])).2⟩) hp.2
    have := h y (by simp)
    simp only [linksB, Bool.and_eq_true, decide_eq_true_eq, Bool.not_eq_true', beq_eq_false_iff_ne]
    exact ⟨⟨⟨⟨⟨this.2.1, this.1⟩, this.2.2.1⟩, this.2.2.2.1⟩, this.2.2.2.2⟩, ih⟩
theorem lsaB_filter {l : Lsa} (h : lsaB l = true) (p : Link → Bool) : lsaB ⟨l.o, l.s, l.ls.filter p⟩ = true := by
  have h1 := linksB_spec (lsaB_links h)
  have hl : (l.ls.filter p).length ≤ l.ls.length := List.length_filter_le _ _
  simp only [lsaB, Bool.and_eq_true, decide_eq_true_eq] at h ⊢
  exact ⟨⟨⟨h.1.1.1, h.1.1.2⟩, by omega⟩, linksB_of (fun x hx => h1.1 x (List.mem_filter.1 hx).1) (h1.2.sublist List.filter_sublist)⟩
theorem noLinkL_ref (a b : Int) (l : Lsa) : noLinkL a b l = refNLl a b l := by
  unfold noLinkL refNLl woL keepP
  split
  · rename_i h
    congr 1
    refine List.filter_congr (fun x _ => ?_)
    rw [h]
    by_cases e : a = b
    · subst e; simp
    · simp [e]
  · rename_i h
    split
    · rename_i h2
      congr 1
      refine List.filter_congr (fun x _ => ?_)
      simp [h, h2]
      intro e
      exact .inl (fun e2 => h (h2.trans e2))
    · rename_i h2
      have : l.ls.filter (fun x => !(l.o == a && x.t == b) && !(l.o == b && x.t == a)) = l.ls := List.filter_eq_self.2 (fun x _ => by simp [h, h2])
      rw [this]
theorem noLink_ref {db : List Lsa} (h : lsdbB 0 db = true) (a b : Int) : noLink db a b = refNL db a b := by
  unfold noLink refNL
  rw [if_pos h]
  exact List.map_congr_left (fun x _ => noLinkL_ref a b x)
theorem noNode_ref {db : List Lsa} (h : lsdbB 0 db = true) (n : Int) : noNode db n = refNN db n := by
  unfold noNode refNN
  rw [if_pos h]
theorem refNL_ok {db : List Lsa} (h : lsdbB 0 db = true) (a b : Int) : lsdbB 0 (refNL db a b) = true := by
  have hs := lsdbB_spec h
  unfold refNL
  refine lsdbB_of (fun x hx => ?_) ?_
  · obtain ⟨y, hy, rfl⟩ := List.mem_map.1 hx
    exact ⟨(hs.1 y hy).1, lsaB_filter (hs.1 y hy).2 _⟩
  · rw [List.pairwise_map]; exact hs.2
theorem findG_nn {db : List Lsa} {r n : Int} : 0 ≤ (findG (rtsDb db r) n).nd := by
  unfold findG
  cases hf : findR (rtsDb db r) n with
  | none => exact Int.le_refl _
  | some x =>
    obtain ⟨h1, h2⟩ := findR_some hf
    unfold rtsDb at h1
    split at h1
    · obtain ⟨hok, _, h3, _⟩ := rtsM_mem h1
      have := isF_range (arcs_ok hok) h3
      rw [Option.getD_some]
      omega
    · simp at h1
theorem those_congr {p q : Rt → Rt → Bool} {x y : List Rt} {m : Nat} (h : ∀ n, p (findG x n) (findG y n) = q (findG x n) (findG y n)) : thoseM p x y m = thoseM q x y m := by
  unfold thoseM
  exact List.filter_congr (fun n _ => h n)
theorem lost_ref {x y : List Lsa} {r : Int} : thoseM lostP (rtsDb x r) (rtsDb y r) 64 = thoseM (refP true) (rtsDb x r) (rtsDb y r) 64 := those_congr fun n => by
  have := findG_nn (db := x) (r := r) (n := n)
  unfold lostP refP
  rw [if_pos rfl]
  congr 1
  rw [Bool.eq_iff_iff]
  simp
  omega
theorem lostN_ref {db : List Lsa} (h : lsdbB 0 db = true) (r : Int) : refLostN db r = lostN db r := by
  funext e
  unfold refLostN lostN
  rw [lost_ref, noLink_ref h]
theorem worstM_ref {db : List Lsa} (h : lsdbB 0 db = true) (r : Int) : refWorst (refLostN db r) (edgesM (arcsDb db)) = worstM db r := by
  unfold worstM
  rw [lostN_ref h, worst_ref]
theorem worstM_no {db : List Lsa} (h : lsdbB 0 db = false) (r : Int) : worstM db r = (edZ, 0) := by
  unfold worstM
  have : edgesM (arcsDb db) = [] := by
    have h1 := edgesM_len (arcsDb db)
    have h2 : arcsDb db = [] := by unfold arcsDb; rw [h]; rfl
    rw [h2] at h1 ⊢
    exact List.eq_nil_of_length_eq_zero (by simpa using h1)
  rw [this]
  rfl
/-! ### Arcs of a base with less -/
theorem mem_arcsDb {db : List Lsa} (h : lsdbB 0 db = true) {a : Arc} : a ∈ arcsDb db ↔ ∃ l ∈ db, ∃ m ∈ db, l.o = a.f ∧ (⟨a.t, a.c⟩ : Link) ∈ l.ls ∧ m.o = a.t ∧ ∃ y ∈ m.ls, y.t = a.f := by
  unfold arcsDb
  rw [if_pos h, mem_arcsAll]
  constructor
  · rintro ⟨l, hl, x, hx, hc, rfl⟩
    obtain ⟨y, hy, hyt⟩ := costL_pos hc
    have hm : getL db x.t ∈ db ∧ (getL db x.t).o = x.t := by
      rw [getL_ref h] at hy ⊢
      unfold refGet at hy ⊢
      cases hf : db.find? (fun z => z.o == x.t) with
      | none => rw [hf] at hy; simp at hy
      | some z => exact ⟨List.mem_of_find?_eq_some hf, by simpa using List.find?_some hf⟩
    exact ⟨l, hl, _, hm.1, rfl, hx, hm.2, y, hy, hyt⟩
  · rintro ⟨l, hl, m, hm, h1, h2, h3, y, hy, h4⟩
    refine ⟨l, hl, ⟨a.t, a.c⟩, h2, ?_, ?_⟩
    · show 0 < costL (getL db a.t).ls l.o
      rw [← h3, getL_mem h hm, h1, ← h4]
      exact costL_mem ((lsdbB_spec h).1 m hm).2 hy
    · rw [h1]
theorem arcs_sub {db less : List Lsa} (h : lsdbB 0 db = true) (h' : lsdbB 0 less = true) (hs : ∀ l' ∈ less, ∃ l ∈ db, l.o = l'.o ∧ ∀ x ∈ l'.ls, x ∈ l.ls) : ∀ a ∈ arcsDb less, a ∈ arcsDb db := fun a ha => by
  obtain ⟨l, hl, m, hm, h1, h2, h3, y, hy, h4⟩ := (mem_arcsDb h').1 ha
  obtain ⟨l0, q1, q2, q3⟩ := hs l hl
  obtain ⟨m0, q4, q5, q6⟩ := hs m hm
  exact (mem_arcsDb h).2 ⟨l0, q1, m0, q4, by rw [q2, h1], q3 _ h2, by rw [q5, h3], y, q6 y hy, h4⟩
theorem refNL_sub {db : List Lsa} {a b : Int} : ∀ l' ∈ refNL db a b, ∃ l ∈ db, l.o = l'.o ∧ ∀ x ∈ l'.ls, x ∈ l.ls := fun l' hl => by
  unfold refNL at hl
  obtain ⟨l, h, rfl⟩ := List.mem_map.1 hl
  exact ⟨l, h, rfl, fun x hx => (List.mem_filter.1 hx).1⟩
theorem refNN_sub {db : List Lsa} {n : Int} : ∀ l' ∈ refNN db n, ∃ l ∈ db, l.o = l'.o ∧ ∀ x ∈ l'.ls, x ∈ l.ls := fun l' hl => ⟨l', (List.mem_filter.1 hl).1, rfl, fun x hx => hx⟩
theorem Wk.mono {l m : List Arc} (h : ∀ a ∈ l, a ∈ m) {r v c : Int} (k : Wk l r v c) : Wk m r v c := by
  induction k with
  | refl => exact .refl
  | step _ ha hu ih => exact .step ih (h _ ha) hu
theorem findR_of {rs : List Rt} {n : Int} {x : Rt} (h : x ∈ rs) (hn : x.nd = n) : ∃ y ∈ rs, findR rs n = some y ∧ y.nd = n := by
  unfold findR
  cases hf : rs.find? (fun x => x.nd == n) with
  | none => rw [List.find?_eq_none] at hf; exact absurd (by simpa using hn) (hf x h)
  | some y => exact ⟨y, List.mem_of_find?_eq_some hf, rfl, by simpa using List.find?_some hf⟩
theorem rts_farther {db less : List Lsa} (h : lsdbB 0 db = true) (hs : ∀ l' ∈ less, ∃ l ∈ db, l.o = l'.o ∧ ∀ x ∈ l'.ls, x ∈ l.ls) {r : Int} {y : Rt} (hy : y ∈ rtsDb less r) : (findR (rtsDb db r) y.nd).isSome = true ∧ (findG (rtsDb db r) y.nd).c ≤ y.c := by
  unfold rtsDb at hy
  split at hy
  case isFalse => simp at hy
  rename_i h'
  obtain ⟨hok', h1, h2, h3⟩ := rtsM_mem hy
  have hsub := arcs_sub h h' hs
  have hok := dbArcs_ok h
  have hw := (isF_wk (arcs_ok hok') h2).mono hsub
  obtain ⟨h4, h5⟩ := wk_isF (arcs_ok hok) (.inr h1) hw
  have hm : (⟨y.nd, viaM (arcsDb db) r y.nd, dF (arcsDb db) r y.nd⟩ : Rt) ∈ rtsDb db r := by
    unfold rtsDb
    rw [if_pos h]
    exact rtsM_of hok h1 h4
  obtain ⟨z, hz, hz2, hz3⟩ := findR_of hm rfl
  unfold rtsDb at hz
  rw [if_pos h] at hz
  obtain ⟨_, _, _, hz4⟩ := rtsM_mem hz
  unfold findG
  rw [hz2]
  refine ⟨rfl, ?_⟩
  rw [Option.getD_some, hz4, hz3, h3]
  exact h5
theorem srt_ext {α : Type} {r : α → α → Prop} (irr : ∀ a, ¬ r a a) (tr : ∀ a b c, r a b → r b c → r a c) : ∀ {l m : List α}, l.Pairwise r → m.Pairwise r → (∀ a, a ∈ l ↔ a ∈ m) → l = m
  | [], [], _, _, _ => rfl
  | [], b :: m, _, _, h => by have := (h b).2 (by simp); simp at this
  | a :: l, [], _, _, h => by have := (h a).1 (by simp); simp at this
  | a :: l, b :: m, hl, hm, h => by
    rw [List.pairwise_cons] at hl hm
    have e : a = b := by
      rcases List.mem_cons.1 ((h a).1 (by simp)) with e | h1
      · exact e
      · rcases List.mem_cons.1 ((h b).2 (by simp)) with e | h2
        · exact e.symm
        · exact absurd (tr a b a (hl.1 b h2) (hm.1 a h1)) (irr a)
    subst e
    rw [srt_ext irr tr hl.2 hm.2 (fun x => ?_)]
    constructor
    · intro hx
      rcases List.mem_cons.1 ((h x).1 (by simp [hx])) with e | h1
      · subst e; exact absurd (hl.1 x hx) (irr x)
      · exact h1
    · intro hx
      rcases List.mem_cons.1 ((h x).2 (by simp [hx])) with e | h1
      · subst e; exact absurd (hm.1 x hx) (irr x)
      · exact h1
theorem arcs_back2 {db : List Lsa} (h : lsdbB 0 db = true) {a : Arc} (ha : a ∈ arcsDb db) : ∃ b ∈ arcsDb db, b.f = a.t ∧ b.t = a.f := by
  unfold arcsDb at ha ⊢
  rw [if_pos h] at ha ⊢
  exact arcs_back h ha
theorem refNL_arcs {db : List Lsa} (h : lsdbB 0 db = true) {a b : Int} (hno : ∀ x ∈ arcsDb db, ¬ (x.f = a ∧ x.t = b)) : arcsDb (refNL db a b) = arcsDb db := by
  have h' := refNL_ok h a b
  have hs1 := arcsB_sorted (dbArcs_ok h)
  have hs2 := arcsB_sorted (dbArcs_ok h')
  refine srt_ext (r := ltA) (fun a e => by unfold ltA at e; omega) (fun a b c h1 h2 => by unfold ltA at *; omega) hs2 hs1 (fun x => ⟨fun hx => arcs_sub h h' refNL_sub x hx, fun hx => ?_⟩)
  have n1 := hno x hx
  obtain ⟨y0, hy0, hy1, hy2⟩ := arcs_back2 h hx
  have n2 := hno y0 hy0
  rw [hy1, hy2] at n2
  obtain ⟨l, hl, m, hm, q1, q2, q3, y, hy, q4⟩ := (mem_arcsDb h).1 hx
  have key : ∀ (l : Lsa) (z : Link), ¬ (l.o = a ∧ z.t = b) → ¬ (l.o = b ∧ z.t = a) → keepP l.o a b z = true := fun l z e1 e2 => by
    unfold keepP
    simp only [Bool.and_eq_true, Bool.not_eq_true', Bool.and_eq_false_iff, beq_eq_false_iff_ne]
    omega
  refine (mem_arcsDb h').2 ⟨_, List.mem_map.2 ⟨l, hl, rfl⟩, _, List.mem_map.2 ⟨m, hm, rfl⟩, q1, List.mem_filter.2 ⟨q2, key l _ ?_ ?_⟩, q3, y, List.mem_filter.2 ⟨hy, key m _ ?_ ?_⟩, q4⟩
  · rw [q1]; exact n1
  · rw [q1]; exact fun e => n2 ⟨e.2, e.1⟩
  · rw [q3, q4]; exact n2
  · rw [q3, q4]; exact fun e => n1 ⟨e.2, e.1⟩
theorem those_nil {x : List Rt} {m : Nat} : thoseM turnP x x m = [] := by
  unfold thoseM turnP
  simp
theorem turns_none {db : List Lsa} (h : lsdbB 0 db = true) {a b r : Int} (hno : ∀ x ∈ arcsDb db, ¬ (x.f = a ∧ x.t = b)) : thoseM turnP (rtsDb db r) (rtsDb (noLink db a b) r) 64 = [] := by
  have : rtsDb (noLink db a b) r = rtsDb db r := by
    unfold rtsDb
    rw [noLink_ref h, refNL_arcs h hno, if_pos (refNL_ok h a b), if_pos h]
  rw [this]
  exact those_nil
end A
end Go.Proofs.Ytmcannmjielalaa
set_option linter.unusedVariables false
set_option linter.unusedSimpArgs false
namespace Go.Proofs.Ytmcannmjielalaa
namespace A
theorem eq_73 : eqType Try.prog 73 = some [(0, .i), (1, .i), (2, .i)] := by kernel_rfl
theorem st_138 : structPlaces Try.prog 138 = some [(0, 1), (1, 1)] := by kernel_rfl
def rowD : List Lsa := [⟨1, 1, [⟨2, 1⟩]⟩, ⟨2, 1, [⟨1, 1⟩, ⟨3, 1⟩]⟩, ⟨3, 1, [⟨2, 1⟩]⟩]
theorem rowD_w : worstM rowD 1 = (⟨1, 2, 1⟩, 2) := by decide +kernel
theorem rowD_l : thoseM lostP (rtsDb rowD 1) (rtsDb (noNode rowD 3) 1) 64 = [3] := by decide +kernel
theorem rowD_n : (noNode rowD 3).length = 2 := by decide +kernel
/- waymarklaw45.row -/
set_option maxRecDepth 100000 in
set_option maxHeartbeats 400000 in
theorem law45_row  : Triple Try.prog 147 [] [] (Is (.sl 3 (rowD.map lsaC)) []) := by
  refine triple_of Try.func147 rfl (by kernel_rfl) rfl (by simp) ?_
  refine aSeq ?_
  refine aReg ?_
  refine sp pMa ?_
  refine oNil ?_
  refine aSeq ?_
  refine aReg ?_
  refine sp (pBuild rfl st_138 ze_138 rfl rfl rfl rfl) ?_
  refine sq ?_
  refine qLit (l := [_]) rfl rfl (by decide) us_139 ty_138 ze_138 rfl (by decide) (by decide) rfl rfl rfl (fun b2 => ?_)
  refine sp (pBuild rfl st_141 ze_141 rfl rfl rfl rfl) ?_
  refine sp (pBuild rfl st_138 ze_138 rfl rfl rfl rfl) ?_
  refine sp (pBuild rfl st_138 ze_138 rfl rfl rfl rfl) ?_
  refine sq ?_
  refine qLit (l := [_, _]) rfl rfl (by decide) us_139 ty_138 ze_138 rfl (by decide) (by decide) rfl rfl rfl (fun b6 => ?_)
  refine sp (pBuild rfl st_141 ze_141 rfl rfl rfl rfl) ?_
  refine sp (pBuild rfl st_138 ze_138 rfl rfl rfl rfl) ?_
  refine sq ?_
  refine qLit (l := [_]) rfl rfl (by decide) us_139 ty_138 ze_138 rfl (by decide) (by decide) rfl rfl rfl (fun b9 => ?_)
  refine sp (pBuild rfl st_141 ze_141 rfl rfl rfl rfl) ?_
  refine sq ?_
  refine qLit (l := [_, _, _]) rfl rfl (by decide) us_55 ty_141 ze_141 rfl (by decide) (by decide) rfl rfl rfl (fun b11 => ?_)
  refine sp pMa ?_
  refine oNil ?_
  refine aWeak (weak_deep (k := 0) (b := .sl 3 (rowD.map lsaC)) rfl (.cons .hd (.cons .hd (.cons .hd (.cons .hd .nil)))) (by repeat constructor)) ?_
  refine aRet ?_
  refine finIs rfl rfl
/- waymarklaw45.awake -/
set_option maxRecDepth 100000 in
set_option maxHeartbeats 400000 in
theorem law45_awake  : Triple Try.prog 63 [] [] (Is (.v (.bool true)) []) := by
  refine triple_of Try.func63 rfl (by kernel_rfl) rfl (by simp) ?_
  refine aSeq ?_
  refine aReg ?_
  refine sp pMa ?_
  refine oNil ?_
  refine aSeq ?_
  refine aReg ?_
  refine sq ?_
  refine ci rfl rfl rfl law45_row ?_
  refine sq ?_
  refine ci rfl rfl rfl (whatif_Worst (db := rowD) (root := 1) (by decide)) ?_
  rw [rowD_w]
  refine sp pM ?_
  refine sp pX ?_
  refine sp pX ?_
  refine sq ?_
  refine qAlloc rfl rfl (by decide) ze_73 rfl (fun b1 => ?_)
  refine sa ?_
  refine oStW rfl rfl rfl rfl (by repeat constructor) ty_73 ?_
  refine sp pMa ?_
  refine oNil ?_
  refine aSeq ?_
  refine aReg ?_
  refine sr (by first | exact rBWa ty_73 | exact rBW ty_73 | exact rBA ty_73) ?_
  refine sp (pBuild rfl st_73 ze_73 rfl rfl rfl rfl) ?_
  refine sp (pEqA rfl (.inl rfl) rfl rfl eq_73 rfl rfl) ?_
  refine sp pM ?_
  refine gp pM ?_
  refine gp pB ?_
  refine sp pK ?_
  refine sp pM ?_
  refine ga ?_
  refine (ci rfl rfl rfl law45_row ?_).op
  refine ga ?_
  refine (ci rfl rfl rfl law45_row ?_).op
  refine ga ?_
  refine (ci rfl rfl rfl (whatif_NoNode_s (db := rowD) (n := 3) (by decide)) ?_).op
  refine ga ?_
  refine (ci rfl rfl rfl (whatif_Lost_s (x := rowD) (y := noNode rowD 3) (r := 1) (by decide) (by rw [rowD_n]; decide)) ?_).op
  rw [rowD_l]
  refine gp (by first | exact pLm sl_25 | exact pLs sl_25 | exact pLv sl_25) ?_
  refine gp pB ?_
  refine sp pK ?_
  refine sp pMa ?_
  refine oNil ?_
  refine aRet ?_
  refine finIs rfl ?_
  rfl
/- waymarklaw45.few -/
set_option maxRecDepth 100000 in
set_option maxHeartbeats 400000 in
theorem law45_few {db : List Lsa} : Triple Try.prog 62 [.sl 3 (db.map lsaC)] [] (Is (.v (.bool (fewB db))) []) := by
  refine triple_of Try.func62 rfl (by kernel_rfl) rfl (by simp) ?_
  refine aSeq ?_
  refine aReg ?_
  refine sp pMa ?_
  refine oNil ?_
  refine aSeq ?_
  refine aReg ?_
  refine sp pM ?_
  refine sp (by first | exact pLm sl_55 | exact pLs sl_55) ?_
  refine sp pB ?_
  refine sp pM ?_
  refine oSplitDec 6 rfl (fun c6 => ?_) (fun c6 => ?_)
  · skip
    refine gp pM ?_
    refine ga ?_
    refine (cv rfl rfl rfl (lents_refl _) (law19_Light_v (db := db)) ?_).op
    refine sp pK ?_
    refine sp pMa ?_
    refine oNil ?_
    refine aRet ?_
    refine finIs rfl ?_
    unfold fewB
    simp_all [retOf]
    all_goals omega
  · skip
    refine gf ?_
    refine gf ?_
    refine sp pK ?_
    refine sp pMa ?_
    refine oNil ?_
    refine aRet ?_
    refine finIs rfl ?_
    unfold fewB
    simp_all [retOf]
    all_goals omega
/- waymarklaw45.WhatifBases -/
set_option maxRecDepth 100000 in
set_option maxHeartbeats 1000000 in
theorem law45_WhatifBases {db : List Lsa} {a b : Int} (hdl : db.length ≤ 9223372036854775807) : Triple Try.prog 11 [.sl 3 (db.map lsaC), .int a, .int b] [] (Is (.v (.bool true)) []) := by
  refine triple_of Try.func11 rfl (by kernel_rfl) rfl (by simp) ?_
  refine aSeq ?_
  refine aReg ?_
  refine sp pMa ?_
  refine oNil ?_
  refine aSeq ?_
  refine aSeq ?_
  refine aReg ?_
  refine sp pM ?_
  refine sq ?_
  refine cv rfl rfl rfl (lents_refl _) law45_few ?_
  refine sp pNo ?_
  refine oNil ?_
  refine aCondNot rfl (fun c15 => ?_) (fun c15 => ?_)
  · skip
    refine aSeq ?_
    refine aReg ?_
    refine sq ?_
    refine cv rfl rfl rfl (lents_refl _) law45_awake ?_
    refine sp pMa ?_
    refine oNil ?_
    refine aRet ?_
    refine finIs rfl ?_
    rfl
  · skip
    refine aSkip ?_
    refine aSeq ?_
    have hfew := few_len (db := db) (by simpa using c15)
    have hn1 := noLink_len db a b
    have hn2 := noNode_len db a
    refine aReg ?_
    refine sp pM ?_
    refine sp pM ?_
    refine sp pM ?_
    refine sq ?_
    refine ci rfl rfl rfl (whatif_NoLink_s (db := db) (a := a) (b := b) (by omega)) ?_
    refine sp pM ?_
    refine sp pM ?_
    refine sq ?_
    refine ci rfl rfl rfl (whatif_NoNode_s (db := db) (n := a) (by omega)) ?_
    refine sp pMa ?_
    refine sp pMa ?_
    refine oNil ?_
    refine aSeq ?_
    refine aReg ?_
    refine sp pM ?_
    refine sp pM ?_
    refine sq ?_
    refine ci rfl rfl rfl (whatif_Worst (db := db) (root := a) (by omega)) ?_
    refine sp pM ?_
    refine sp pX ?_
    refine sp pX ?_
    refine sq ?_
    refine qAlloc rfl rfl (by decide) ze_73 rfl (fun b9 => ?_)
    refine sa ?_
    refine oStW rfl rfl rfl rfl (by repeat constructor) ty_73 ?_
    refine sp pMa ?_
    refine oNil ?_
    refine aSeq ?_
    refine aSeq ?_
    refine aReg ?_
    refine sp pM ?_
    refine sq ?_
    refine cv rfl rfl rfl (lents_refl _) (ref19_May_v (db := db) (by omega) (fun x hx => by have := hfew.2 x hx; omega)) ?_
    refine sp pNo ?_
    refine oNil ?_
    refine aCondNot rfl (fun c32 => ?_) (fun c32 => ?_)
    · skip
      refine aSeq ?_
      have hno : lsdbB 0 db = false := by simpa using c32
      have hx : noLink db a b = [] := by unfold noLink; rw [hno]; rfl
      have hy : noNode db a = [] := by unfold noNode; rw [hno]; rfl
      rw [hx, hy, worstM_no hno]
      refine aReg ?_
      refine sp pM ?_
      refine sp (by first | exact pLm sl_55 | exact pLs sl_55 | exact pLv sl_55) ?_
      refine sp pB ?_
      refine sp pM ?_
      refine gp pM ?_
      refine gp (by first | exact pLm sl_55 | exact pLs sl_55 | exact pLv sl_55) ?_
      refine gp pB ?_
      refine sp pK ?_
      refine sp pM ?_
      refine gr (by first | exact rBWa ty_73 | exact rBW ty_73 | exact rBA ty_73) ?_
      refine gp (pBuild rfl st_73 ze_73 rfl rfl rfl rfl) ?_
      refine gp (pEqA rfl (.inl rfl) rfl rfl eq_73 rfl rfl) ?_
      refine sp pK ?_
      refine sp pM ?_
      refine gp pM ?_
      refine gp pB ?_
      refine sp pK ?_
      refine sp pM ?_
      refine ga ?_
      refine (cv rfl rfl rfl (lents_refl _) law45_awake ?_).op
      refine sp pK ?_
      refine sp pMa ?_
      refine oNil ?_
      refine aRet ?_
      refine finIs rfl ?_
      rfl
    · skip
      refine aSkip ?_
      refine aSeq ?_
      have hyes : lsdbB 0 db = true := by simpa using c32
      have hk1 : ∀ x ∈ noLink db a b, x.ls.length < 9223372036854775807 := fun x hx => by rw [noLink_ref hyes] at hx; have := refNL_lk hfew.2 a b x hx; omega
      have hk2 : ∀ x ∈ noNode db a, x.ls.length < 9223372036854775807 := fun x hx => by rw [noNode_ref hyes] at hx; have := hfew.2 x (List.mem_filter.1 hx).1; omega
      refine aReg ?_
      refine sp pM ?_
      refine sp pM ?_
      refine sq ?_
      refine ci rfl rfl rfl (ref45_Worst (db := db) (root := a) hyes (by omega) hfew.2) ?_
      rw [worstM_ref hyes]
      refine sp pM ?_
      refine sp pX ?_
      refine sp pX ?_
      refine sq ?_
      refine qAlloc rfl rfl (by decide) ze_73 rfl (fun b11 => ?_)
      refine sa ?_
      refine oStW rfl rfl rfl rfl (by repeat constructor) ty_73 ?_
      refine sp pMa ?_
      refine oNil ?_
      refine aSeq ?_
      refine aReg ?_
      refine sp pM ?_
      refine sp pM ?_
      refine sp pM ?_
      refine sp pM ?_
      refine sq ?_
      refine ci rfl rfl rfl (ref45_NoLink_s (db := db) (a := a) (b := b) (by omega) (fun x hx => by have := hfew.2 x hx; omega)) ?_
      rw [← noLink_ref hyes]
      refine sq ?_
      refine cv rfl rfl rfl (lents_refl _) (ref09_All (a := noLink db a b) (b := noLink db a b) (by omega) (by omega) hk1 hk1) ?_
      rw [show decide (noLink db a b = noLink db a b) = true from decide_eq_true rfl]
      refine sp pM ?_
      refine gp pM ?_
      refine gp pM ?_
      refine gp pM ?_
      refine ga ?_
      refine (ci rfl rfl rfl (ref45_NoNode_s (db := db) (n := a) (by omega)) ?_).op
      rw [← noNode_ref hyes]
      refine ga ?_
      refine (cv rfl rfl rfl (lents_refl _) (ref09_All (a := noNode db a) (b := noNode db a) (by omega) (by omega) hk2 hk2) ?_).op
      rw [show decide (noNode db a = noNode db a) = true from decide_eq_true rfl]
      refine sp pK ?_
      refine sp pM ?_
      refine gr (by first | exact rBWa ty_73 | exact rBW ty_73 | exact rBA ty_73) ?_
      refine gr (by first | exact rBWa ty_73 | exact rBW ty_73 | exact rBA ty_73) ?_
      refine gp (pBl (by exact pEqAe eq_73) (show _ = true from by simp)) ?_
      refine sp pK ?_
      refine sp pM ?_
      refine gp pM ?_
      refine gp pM ?_
      refine gp (pBl (by exact pB) (show _ = true from by simp)) ?_
      refine sp pK ?_
      refine sp pM ?_
      refine ga ?_
      refine (cv rfl rfl rfl (lents_refl _) law45_awake ?_).op
      refine sp pK ?_
      refine sp pMa ?_
      refine oNil ?_
      refine aRet ?_
      refine finIs rfl ?_
      rfl
/- waymarklaw45.WhatifFarther -/
def law45_WhatifFarther_r6_T : Bool × List (List Nat × List Nat) := (true, [([], []), ([], []), ([1], [1]), ([0, 2], [0, 2]), ([], []), ([], []), ([5], [5]), ([4, 6, 3], [4, 6]), ([3, 7, 0, 1, 2, 3], [3]), ([7, 8, 0, 1, 2, 3, 4, 5, 6, 7, 8], [7])])
def law45_WhatifFarther_r6_B : List Nat := [0, 0, 2, 7, 0, 0, 32, 127, 255, 511]
theorem law45_WhatifFarther_r6_t : Go.Proofs.YtmcannmjielalaaW.PrintLast.rtab .any (Go.Proofs.YtmcannmjielalaaW.PrintLast.opsOf Try.f13 6) = law45_WhatifFarther_r6_T := by kernel_rfl
theorem law45_WhatifFarther_r6_b : Go.Proofs.YtmcannmjielalaaW.PrintLast.waitsOk law45_WhatifFarther_r6_T.2 law45_WhatifFarther_r6_B = true := by kernel_rfl
def law45_WhatifFarther_r11_T : Bool × List (List Nat × List Nat) := (true, [([], []), ([0], [0]), ([1], [1]), ([2], [2]), ([3, 2], [2, 3]), ([2], [2]), ([2], [2]), ([5, 6, 2], [2, 5, 6]), ([7, 2], [2, 7]), ([8, 2], [2, 8]), ([4, 9, 2], [2, 4, 9]), ([2, 10], [2, 10])])
def law45_WhatifFarther_r11_B : List Nat := [0, 1, 3, 7, 15, 7, 7, 103, 231, 487, 1023, 2047]
theorem law45_WhatifFarther_r11_t : Go.Proofs.YtmcannmjielalaaW.PrintLast.rtab .any (Go.Proofs.YtmcannmjielalaaW.PrintLast.opsOf Try.f13 11) = law45_WhatifFarther_r11_T := by kernel_rfl
theorem law45_WhatifFarther_r11_b : Go.Proofs.YtmcannmjielalaaW.PrintLast.waitsOk law45_WhatifFarther_r11_T.2 law45_WhatifFarther_r11_B = true := by kernel_rfl
def law45_WhatifFarther_r18_T : Bool × List (List Nat × List Nat) := (true, [([], []), ([0], [0]), ([1], [1]), ([1], [1]), ([2, 3, 1], [1, 2, 3]), ([4, 1], [1, 4]), ([5, 1], [1, 5]), ([1], [1]), ([7, 1], [1, 7]), ([6, 8, 1], [1, 6, 8]), ([9, 1, 1], [1, 9]), ([10], [10]), ([10], [10]), ([11, 12, 10], [10, 11, 12]), ([13, 10], [10, 13]), ([14, 10], [10, 14]), ([10], [10]), ([16, 10], [10, 16]), ([15, 17, 10], [10, 15, 17]), ([10, 18, 1], [1, 10, 18]), ([1, 19], [1, 19]), ([20, 10, 0, 1, 2, 3, 4, 5, 6, 7, 8, 9, 10, 11, 12, 13, 14, 15, 16, 17, 18, 19, 20], [0, 20])])
def law45_WhatifFarther_r18_B : List Nat := [0, 1, 3, 3, 15, 31, 63, 3, 131, 511, 1023, 2047, 2047, 8191, 16383, 32767, 2047, 67583, 262143, 524287, 1048575, 2097151]
theorem law45_WhatifFarther_r18_t : Go.Proofs.YtmcannmjielalaaW.PrintLast.rtab .any (Go.Proofs.YtmcannmjielalaaW.PrintLast.opsOf Try.f13 18) = law45_WhatifFarther_r18_T := by kernel_rfl
theorem law45_WhatifFarther_r18_b : Go.Proofs.YtmcannmjielalaaW.PrintLast.waitsOk law45_WhatifFarther_r18_T.2 law45_WhatifFarther_r18_B = true := by kernel_rfl
set_option maxRecDepth 100000 in
set_option maxHeartbeats 2000000 in
theorem law45_WhatifFarther {db : List Lsa} {n0 n1 n2 : Int} {node : Bool} (hdl : db.length ≤ 9223372036854775807) : Triple Try.prog 13 [.sl 3 (db.map lsaC), .agg [.int n0, .int n1, .int n2], .v (.bool node)] [] (Is (.v (.bool true)) []) := by
  refine triple_of Try.func13 rfl (by kernel_rfl) rfl (by simp) ?_
  refine aSeq ?_
  refine aReg ?_
  refine sq ?_
  refine qBox rfl rfl (by decide) rfl rfl (fun b4 => ?_)
  refine sp pMa ?_
  refine oNil ?_
  refine aSeq ?_
  refine aSeq ?_
  refine aReg ?_
  refine sp pM ?_
  refine sq ?_
  refine cv rfl rfl rfl (lents_refl _) law45_few ?_
  refine sp pNo ?_
  refine sp pM ?_
  refine oSplitNot 19 rfl (fun c19 => ?_) (fun c19 => ?_)
  · skip
    refine gf ?_
    refine gf ?_
    refine gf ?_
    refine sp pK ?_
    refine oNil ?_
    refine aCondT rfl ?_
    refine aSeq ?_
    refine aReg ?_
    refine sq ?_
    refine cv rfl rfl rfl (lents_refl _) law45_awake ?_
    refine sp pMa ?_
    refine oNil ?_
    refine aRet ?_
    refine finIs rfl ?_
    rfl
  · skip
    refine gp pM ?_
    have hfew := few_len (db := db) (by simp_all)
    refine ga ?_
    refine (cv rfl rfl rfl (lents_refl _) (ref19_May_v (db := db) (by omega) (fun x hx => by have := hfew.2 x hx; omega)) ?_).op
    refine gp pNo ?_
    refine sp pK ?_
    refine oNil ?_
    refine aCondNot rfl (fun c23 => ?_) (fun c23 => ?_)
    · skip
      refine aSeq ?_
      refine aReg ?_
      refine sq ?_
      refine cv rfl rfl rfl (lents_refl _) law45_awake ?_
      refine sp pMa ?_
      refine oNil ?_
      refine aRet ?_
      refine finIs rfl ?_
      rfl
    · skip
      refine aSkip ?_
      refine aSeq ?_
      have hfew := few_len (db := db) (by simp_all)
      have hyes : lsdbB 0 db = true := by simp_all
      have hn1 := noLink_len db n0 n1
      have hn2 := noNode_len db n0
      have hal := arcsDb_len db
      refine aReg ?_
      refine sp pM ?_
      refine sp (pIa ar_44) ?_
      refine sr (by first | exact rAr ty_3 | exact rArL ty_3 | exact rArR2 ty_3 | exact rB1 ty_3) ?_
      refine sp (pIa ar_44) ?_
      refine sr (by first | exact rAr ty_3 | exact rArL ty_3 | exact rArR2 ty_3 | exact rB1 ty_3) ?_
      refine sq ?_
      refine ci rfl rfl rfl (whatif_NoLink_s (db := db) (a := n0) (b := n1) (by omega)) ?_
      refine sp pMa ?_
      refine oNil ?_
      refine cutF (α := List Lsa) (kept := [(0, _), (2, _), (4, _)]) (H0 := []) (fun ls => ls = noLink db n0 n1 ∧ node = false ∨ ls = noNode db n0 ∧ node = true) (fun ls => [(7, .sl 3 (ls.map lsaC))]) (fun ls => []) ⟨rfl, rfl, rfl, trivial⟩ (by repeat constructor) ?_ ?_
      · skip
        refine aSeq ?_
        refine aReg ?_
        refine sp pM ?_
        refine oNil ?_
        refine aCond rfl (fun c31 => ?_) (fun c31 => ?_)
        · skip
          refine aReg ?_
          refine sp pM ?_
          refine sp (pIa ar_44) ?_
          refine sr (by first | exact rAr ty_3 | exact rArL ty_3 | exact rArR2 ty_3 | exact rB1 ty_3) ?_
          refine sq ?_
          refine ci rfl rfl rfl (whatif_NoNode_s (db := db) (n := n0) (by omega)) ?_
          refine sp pMa ?_
          refine oNil ?_
          refine ⟨_, ?_, ⟨rfl, rfl, rfl, rfl, trivial⟩, _, (by repeat constructor)⟩
          first
            | exact .inl ⟨rfl, by simp_all⟩
            | exact .inr ⟨rfl, by simp_all⟩
        · skip
          refine aSkip ?_
          refine ⟨_, ?_, ⟨rfl, rfl, rfl, rfl, trivial⟩, _, (by repeat constructor)⟩
          first
            | exact .inl ⟨rfl, by simp_all⟩
            | exact .inr ⟨rfl, by simp_all⟩
      · rintro ls hls
        refine aSeq ?_
        have hsub : ∀ l' ∈ ls, ∃ l ∈ db, l.o = l'.o ∧ ∀ x ∈ l'.ls, x ∈ l.ls := by
          rcases hls with ⟨e1, e2⟩ | ⟨e1, e2⟩
          · rw [e1, noLink_ref hyes]; exact refNL_sub
          · rw [e1, noNode_ref hyes]; exact refNN_sub
        have hlsl : ls.length ≤ db.length := by rcases hls with ⟨e1, e2⟩ | ⟨e1, e2⟩ <;> rw [e1] <;> assumption
        have hr1 := rtsDb_len db n2
        have hr2 := rtsDb_len ls n2
        refine aDrawT law45_WhatifFarther_r6_t law45_WhatifFarther_r6_b [] 10 #[false, false, false, false, false, false, false, false, false, false] (by kernel_rfl) rfl rfl (fun HT => ?_)
        refine dp HT 0 rfl pM ?_
        refine dp HT 1 rfl (pIa ar_44) ?_
        refine dr HT 2 rfl (by first | exact rAr ty_3 | exact rArL ty_3 | exact rArR2 ty_3 | exact rB1 ty_3) ?_
        refine dp HT 4 rfl pM ?_
        refine dp HT 5 rfl (pIa ar_44) ?_
        refine dr HT 6 rfl (by first | exact rAr ty_3 | exact rArL ty_3 | exact rArR2 ty_3 | exact rB1 ty_3) ?_
        refine dGo ?_
        refine e1 HT 3 rfl ?_
        refine ci rfl rfl rfl (route_Of (db := db) (me := n2) (by omega)) ?_
        refine e1 HT 7 rfl ?_
        refine ci rfl rfl rfl (route_Of (db := ls) (me := n2) (by omega)) ?_
        refine ef HT 8 rfl pMa ?_
        refine ef HT 9 rfl pMa ?_
        refine eE HT ?_
        clear HT
        refine aSeq ?_
        refine aSeq ?_
        refine aReg ?_
        refine sp pMa ?_
        refine oNil ?_
        refine aBlock ?_
        refine loopF (α := Nat) (kept := [(0, _), (2, _), (4, _), (7, _), (8, _), (9, _)]) (fun i => i ≤ (rtsDb ls n2).length) (fun i => [(10, .int i)]) (fun i => []) (fun i => (rtsDb ls n2).length - i) 0 ?_ ⟨gInt rfl (by first | rfl | omega | simp), rfl, rfl, rfl, rfl, rfl, rfl, trivial⟩ (by repeat constructor) ?_
        · skip
          omega
        · rintro i hi
          refine aSeq ?_
          refine aSeq ?_
          refine aReg ?_
          refine sp pM ?_
          refine sp pM ?_
          refine sp (by first | exact pLm sl_41 | exact pLs sl_41 | exact pLv sl_41) ?_
          refine sp pB ?_
          refine oNil ?_
          refine aCondDec rfl (fun c47 => ?_) (fun c47 => ?_)
          · skip
            refine aSkip ?_
            refine aSeq ?_
            refine aBlock ?_
            refine aSeq ?_
            obtain ⟨y, hy⟩ : ∃ z, (rtsDb ls n2)[i]? = some z := ⟨_, List.getElem?_eq_getElem (by omega)⟩
            obtain ⟨hfa, hfb⟩ := rts_farther hyes hsub (List.mem_of_getElem? hy)
            refine aReg ?_
            refine sp pM ?_
            refine sp pM ?_
            refine sp pM ?_
            first | refine sp (pIx es_41) ?_ | (refine obtSN 52 53 rfl rfl (by omega) (fun x54 hx54 => ?_); refine sp (pIs es_41 hx54) ?_) | (refine obtS 52 53 rfl rfl (by omega) (by omega) (fun x54 hx54 => ?_); refine sp (pIs es_41 hx54) ?_) | refine sp (pIo es_41) ?_
            refine sp (by first | exact pFb fd_49_0 | exact pFs fd_49_0) ?_
            refine sr (by first | exact rS1 ty_3 | exact rB1 ty_3 | exact rAr ty_3 | exact rArL ty_3 | exact rArR2 ty_3) ?_
            refine sq ?_
            refine ci rfl rfl rfl (route_Find (rs := rtsDb db n2) (n := y.nd) (by omega)) ?_
            unfold findT2
            refine sp pM ?_
            refine sp pX ?_
            refine sp pX ?_
            refine sq ?_
            refine qAlloc rfl rfl (by decide) ze_49 rfl (fun b11 => ?_)
            refine sa ?_
            refine oStW rfl rfl rfl rfl (by repeat constructor) ty_49 ?_
            refine sp pMa ?_
            refine oNil ?_
            refine aSeq ?_
            refine aDrawT law45_WhatifFarther_r11_t law45_WhatifFarther_r11_b [] 12 #[false, false, false, false, false, false, false, false, false, false, false, false] (by kernel_rfl) rfl rfl (fun HT => ?_)
            refine dp HT 0 rfl pM ?_
            refine dp HT 1 rfl pNo ?_
            refine dp HT 2 rfl pM ?_
            refine dSplitNot 62 rfl (fun c62 => ?_) (fun c62 => ?_)
            · skip
              refine dS HT 3 rfl ?_
              refine dS HT 4 rfl ?_
              refine dS HT 5 rfl ?_
              refine dS HT 6 rfl ?_
              refine dS HT 7 rfl ?_
              refine dS HT 8 rfl ?_
              refine dS HT 9 rfl ?_
              refine dS HT 10 rfl ?_
              refine dp HT 11 rfl pK ?_
              refine dE HT ?_
              clear HT
              refine aCondT rfl ?_
              refine aSeq ?_
              refine aReg ?_
              refine sp pMa ?_
              refine oNil ?_
              refine aRet ?_
              exfalso
              first
                | (simp_all; done)
                | (simp_all; omega)
                | omega
            · skip
              refine dpG HT 3 rfl (pFb fd_49_2) ?_
              refine drG HT 4 rfl (rB1 ty_37) ?_
              refine dpG HT 5 rfl pM ?_
              refine dpG HT 6 rfl pM ?_
              first | refine dpG HT 7 rfl (pIx es_41) ?_ | (refine obtDN 65 66 rfl rfl (by omega) (fun x67 hx67 => ?_); refine dpG HT 7 rfl (pIs es_41 hx67) ?_) | (refine obtD 65 66 rfl rfl (by omega) (by omega) (fun x67 hx67 => ?_); refine dpG HT 7 rfl (pIs es_41 hx67) ?_) | refine dpG HT 7 rfl (pIo es_41) ?_
              refine dpG HT 8 rfl (by first | exact pFb fd_49_2 | exact pFs fd_49_2) ?_
              refine drG HT 9 rfl (by first | exact rS1 ty_37 | exact rB1 ty_37 | exact rAr ty_37 | exact rArL ty_37 | exact rArR2 ty_37) ?_
              refine dpG HT 10 rfl pB ?_
              refine dp HT 11 rfl pK ?_
              refine dE HT ?_
              clear HT
              refine aCondDec rfl (fun c71 => ?_) (fun c71 => ?_)
              · skip
                refine aSeq ?_
                refine aReg ?_
                refine sp pMa ?_
                refine oNil ?_
                refine aRet ?_
                exfalso
                first
                  | (simp_all; done)
                  | (simp_all; omega)
                  | omega
              · skip
                refine aSkip ?_
                refine aReg ?_
                refine sp pM ?_
                refine sp pAd ?_
                refine sp pMa ?_
                refine oNil ?_
                refine ⟨i + 1, ?_, by (try dsimp only); omega, ⟨gInt rfl (by first | rfl | omega | simp), rfl, rfl, rfl, rfl, rfl, rfl, trivial⟩, _, (by repeat constructor)⟩
                omega
          · skip
            refine aExit rfl ?_
            refine aSeq ?_
            refine aReg ?_
            refine sp pM ?_
            refine sq ?_
            refine ci rfl rfl rfl (ref24_ArcsDb (db := db) hyes (by omega) hfew.2) ?_
            refine sp pMa ?_
            refine oNil ?_
            refine aSeq ?_
            refine aReg ?_
            refine sp pMa ?_
            refine oNil ?_
            refine aSeq ?_
            refine aSeq ?_
            refine aReg ?_
            refine sp pMa ?_
            refine oNil ?_
            refine aBlock ?_
            refine loopF (α := Nat × Bool) (kept := [(0, _), (2, _), (4, _), (7, _), (13, _)]) (fun (k, lk) => k ≤ (arcsDb db).length ∧ lk = ((arcsDb db).take k).any fun x => x.f == n0 && x.t == n1) (fun (k, lk) => [(15, .int k), (14, .v (.bool lk))]) (fun (k, lk) => []) (fun (k, lk) => (arcsDb db).length - k) (0, false) ?_ ⟨gInt rfl (by first | rfl | omega | simp), rfl, rfl, rfl, rfl, rfl, rfl, trivial⟩ (by repeat constructor) ?_
            · skip
              exact ⟨by omega, by simp⟩
            · rintro ⟨k, lk⟩ ⟨hk, hlk⟩
              refine aSeq ?_
              refine aSeq ?_
              refine aReg ?_
              refine sp pM ?_
              refine sp pM ?_
              refine sp (by first | exact pLm sl_22 | exact pLs sl_22 | exact pLv sl_22) ?_
              refine sp pB ?_
              refine oNil ?_
              refine aCondDec rfl (fun c77 => ?_) (fun c77 => ?_)
              · skip
                refine aSkip ?_
                refine aSeq ?_
                refine aBlock ?_
                obtain ⟨x, hx⟩ : ∃ z, (arcsDb db)[k]? = some z := ⟨_, List.getElem?_eq_getElem (by omega)⟩
                refine aDrawT law45_WhatifFarther_r18_t law45_WhatifFarther_r18_b [] 22 #[false, false, false, false, false, false, false, false, false, false, false, false, false, false, false, false, false, false, false, false, false, false] (by kernel_rfl) rfl rfl (fun HT => ?_)
                refine dp HT 0 rfl pM ?_
                refine dp HT 1 rfl pM ?_
                refine dSplit 81 rfl (fun c81 => ?_) (fun c81 => ?_)
                · skip
                  refine dS HT 2 rfl ?_
                  refine dS HT 3 rfl ?_
                  refine dS HT 4 rfl ?_
                  refine dS HT 5 rfl ?_
                  refine dS HT 6 rfl ?_
                  refine dS HT 7 rfl ?_
                  refine dS HT 8 rfl ?_
                  refine dS HT 9 rfl ?_
                  refine dS HT 10 rfl ?_
                  refine dS HT 11 rfl ?_
                  refine dS HT 12 rfl ?_
                  refine dS HT 13 rfl ?_
                  refine dS HT 14 rfl ?_
                  refine dS HT 15 rfl ?_
                  refine dS HT 16 rfl ?_
                  refine dS HT 17 rfl ?_
                  refine dS HT 18 rfl ?_
                  refine dS HT 19 rfl ?_
                  refine dp HT 20 rfl pK ?_
                  refine dp HT 21 rfl pMa ?_
                  refine dE HT ?_
                  clear HT
                  refine aReg ?_
                  refine sp pM ?_
                  refine sp pAd ?_
                  refine sp pMa ?_
                  refine oNil ?_
                  refine ⟨(k + 1, _), ?_, by (try dsimp only); omega, ⟨gInt rfl (by first | rfl | omega | simp), rfl, rfl, rfl, rfl, rfl, rfl, trivial⟩, _, (by repeat constructor)⟩
                  refine ⟨by omega, ?_⟩
                  rw [take_step hx, List.any_append, ← hlk]
                  simp_all
                · skip
                  refine dpG HT 2 rfl pM ?_
                  refine dpG HT 3 rfl pM ?_
                  first | refine dpG HT 4 rfl (pIx es_22) ?_ | (refine obtDN 82 83 rfl rfl (by omega) (fun x84 hx84 => ?_); refine dpG HT 4 rfl (pIs es_22 hx84) ?_) | (refine obtD 82 83 rfl rfl (by omega) (by omega) (fun x84 hx84 => ?_); refine dpG HT 4 rfl (pIs es_22 hx84) ?_) | refine dpG HT 4 rfl (pIo es_22) ?_
                  refine dpG HT 5 rfl (by first | exact pFb fd_36_0 | exact pFs fd_36_0) ?_
                  refine drG HT 6 rfl (by first | exact rS1 ty_3 | exact rB1 ty_3 | exact rAr ty_3 | exact rArL ty_3 | exact rArR2 ty_3) ?_
                  refine dpG HT 7 rfl (pIa ar_44) ?_
                  refine drG HT 8 rfl (by first | exact rAr ty_3 | exact rArL ty_3 | exact rArR2 ty_3 | exact rB1 ty_3) ?_
                  refine dpG HT 9 rfl pB ?_
                  refine dpG HT 10 rfl pM ?_
                  refine dSplitEq 90 rfl (fun c90 => ?_) (fun c90 => ?_)
                  · skip
                    refine dpG HT 11 rfl pM ?_
                    refine dpG HT 12 rfl pM ?_
                    first | refine dpG HT 13 rfl (pIx es_22) ?_ | (refine obtDN 91 92 rfl rfl (by omega) (fun x93 hx93 => ?_); refine dpG HT 13 rfl (pIs es_22 hx93) ?_) | (refine obtD 91 92 rfl rfl (by omega) (by omega) (fun x93 hx93 => ?_); refine dpG HT 13 rfl (pIs es_22 hx93) ?_) | refine dpG HT 13 rfl (pIo es_22) ?_
                    refine dpG HT 14 rfl (by first | exact pFb fd_36_1 | exact pFs fd_36_1) ?_
                    refine drG HT 15 rfl (by first | exact rS1 ty_3 | exact rB1 ty_3 | exact rAr ty_3 | exact rArL ty_3 | exact rArR2 ty_3) ?_
                    refine dpG HT 16 rfl (pIa ar_44) ?_
                    refine drG HT 17 rfl (by first | exact rAr ty_3 | exact rArL ty_3 | exact rArR2 ty_3 | exact rB1 ty_3) ?_
                    refine dpG HT 18 rfl pB ?_
                    refine dpG HT 19 rfl pK ?_
                    refine dp HT 20 rfl pK ?_
                    refine dp HT 21 rfl pMa ?_
                    refine dE HT ?_
                    clear HT
                    refine aReg ?_
                    refine sp pM ?_
                    refine sp pAd ?_
                    refine sp pMa ?_
                    refine oNil ?_
                    refine ⟨(k + 1, _), ?_, by (try dsimp only); omega, ⟨gInt rfl (by first | rfl | omega | simp), rfl, rfl, rfl, rfl, rfl, rfl, trivial⟩, _, (by repeat constructor)⟩
                    refine ⟨by omega, ?_⟩
                    rw [take_step hx, List.any_append, ← hlk]
                    simp_all
                  · skip
                    refine dS HT 11 rfl ?_
                    refine dS HT 12 rfl ?_
                    refine dS HT 13 rfl ?_
                    refine dS HT 14 rfl ?_
                    refine dS HT 15 rfl ?_
                    refine dS HT 16 rfl ?_
                    refine dS HT 17 rfl ?_
                    refine dS HT 18 rfl ?_
                    refine dpG HT 19 rfl pK ?_
                    refine dp HT 20 rfl pK ?_
                    refine dp HT 21 rfl pMa ?_
                    refine dE HT ?_
                    clear HT
                    refine aReg ?_
                    refine sp pM ?_
                    refine sp pAd ?_
                    refine sp pMa ?_
                    refine oNil ?_
                    refine ⟨(k + 1, _), ?_, by (try dsimp only); omega, ⟨gInt rfl (by first | rfl | omega | simp), rfl, rfl, rfl, rfl, rfl, rfl, trivial⟩, _, (by repeat constructor)⟩
                    refine ⟨by omega, ?_⟩
                    rw [take_step hx, List.any_append, ← hlk]
                    simp_all
              · skip
                refine aExit rfl ?_
                refine aSeq ?_
                rw [take_all (by omega)] at hlk
                refine aReg ?_
                refine sp pM ?_
                refine sp pM ?_
                refine oSplit 102 rfl (fun c102 => ?_) (fun c102 => ?_)
                · skip
                  refine gf ?_
                  refine sp pK ?_
                  refine sp pM ?_
                  refine gf ?_
                  refine gf ?_
                  refine gf ?_
                  refine gf ?_
                  refine gf ?_
                  refine gf ?_
                  refine gf ?_
                  refine sp pK ?_
                  refine sp pM ?_
                  refine ga ?_
                  refine (cv rfl rfl rfl (lents_refl _) law45_awake ?_).op
                  refine sp pK ?_
                  refine sp pMa ?_
                  refine oNil ?_
                  refine aRet ?_
                  refine finIs rfl ?_
                  rfl
                · skip
                  refine gp pM ?_
                  refine sp pK ?_
                  refine sp pM ?_
                  refine oSplit 105 rfl (fun c105 => ?_) (fun c105 => ?_)
                  · skip
                    refine gf ?_
                    refine gf ?_
                    refine gf ?_
                    refine gf ?_
                    refine gf ?_
                    refine gf ?_
                    refine gf ?_
                    refine sp pK ?_
                    refine sp pM ?_
                    refine ga ?_
                    refine (cv rfl rfl rfl (lents_refl _) law45_awake ?_).op
                    refine sp pK ?_
                    refine sp pMa ?_
                    refine oNil ?_
                    refine aRet ?_
                    refine finIs rfl ?_
                    rfl
                  · skip
                    refine gp pM ?_
                    refine gp pM ?_
                    refine gp (pIa ar_44) ?_
                    refine gr (by first | exact rAr ty_3 | exact rArL ty_3 | exact rArR2 ty_3 | exact rB1 ty_3) ?_
                    have hnone : thoseM turnP (rtsDb db n2) (rtsDb ls n2) 64 = [] := by
                      have hno : node = false := by simp_all
                      rcases hls with ⟨e1, e2⟩ | ⟨e1, e2⟩
                      · rw [e1]
                        refine turns_none hyes (fun x hx he => ?_)
                        have hlk2 : (arcsDb db).any (fun x => x.f == n0 && x.t == n1) = false := by simp_all
                        rw [List.any_eq_false] at hlk2
                        exact absurd (by simp [he]) (hlk2 x hx)
                      · rw [hno] at e2; cases e2
                    refine ga ?_
                    refine (ci rfl rfl rfl (whatif_Turns_s (x := db) (y := ls) (r := n2) (by omega) (by omega)) ?_).op
                    refine gp (by first | exact pLm sl_25 | exact pLs sl_25 | exact pLv sl_25) ?_
                    refine gp (pBl (by exact pB) (show _ = true from by rw [hnone]; rfl)) ?_
                    refine sp pK ?_
                    refine sp pM ?_
                    refine ga ?_
                    refine (cv rfl rfl rfl (lents_refl _) law45_awake ?_).op
                    refine sp pK ?_
                    refine sp pMa ?_
                    refine oNil ?_
                    refine aRet ?_
                    refine finIs rfl ?_
                    rfl
end A
end Go.Proofs.Ytmcannmjielalaa
namespace Go.Proofs.Ytmcannmjielalaa.whatifFarther
open Go.ChangeShapes Go.WideShapes Go.ChangeAt Go.RowKit Go.Proofs.Ytmcannmjielalaa.A
open Go.ChangeMaps (open_string shut_string)
set_option linter.unusedVariables false
theorem own : ownKnob Try.prog.godebug = none := by kernel_rfl
theorem laidOut : laidOutB Try.prog = true := A.laidAll
theorem fInPlace : (Rows.whatifFartherRow.inPlace == Try.prog.inPlace 13) = true := by kernel_rfl
theorem fUnfollowed : (Rows.whatifFartherRow.unfollowed == Try.prog.unfollowed 13) = true := by kernel_rfl
theorem fRecurses : (Rows.whatifFartherRow.recurses == Try.prog.recurses 13) = true := by kernel_rfl
theorem fNamed : (Rows.whatifFartherRow.named == Try.prog.varsNamed 13) = true := by kernel_rfl
theorem closed : joinedFacts Try.prog 13 Try.f13 Rows.whatifFartherSpec Rows.whatifFartherRow = true := by
  unfold joinedFacts
  simp only [Bool.and_eq_true]
  refine ⟨⟨⟨⟨⟨⟨⟨⟨⟨⟨⟨⟨⟨⟨⟨⟨⟨⟨⟨⟨⟨⟨⟨⟨⟨⟨⟨⟨⟨⟨⟨?_, A.laidAll⟩, A.mapsAll⟩, ?_⟩, ?_⟩, ?_⟩, ?_⟩, ?_⟩, ?_⟩, fInPlace⟩, fUnfollowed⟩, fRecurses⟩, fNamed⟩, ?_⟩, ?_⟩, ?_⟩, ?_⟩, ?_⟩, ?_⟩, ?_⟩, ?_⟩, ?_⟩, ?_⟩, ?_⟩, A.stopsAll⟩, A.mayE⟩, by rw [A.lifF]; kernel_rfl⟩, by rw [A.mkC]; kernel_rfl⟩, ?_⟩, ?_⟩, ?_⟩, ?_⟩
  all_goals kernel_rfl
set_option maxRecDepth 100000 in
theorem lifted (os : Os) (started : os.Started) (H : Type) (enc : TypeId × Value → H) :
    ReturnsInHanded {} Try.checked os 13 .any (Rows.whatifFartherSpec.pre6 enc Try.prog Try.f13 Rows.whatifFartherRow.domain false) (Rows.whatifFartherSpec.post enc Try.prog Try.f13 false true false false) := by
  refine returnsInHanded_of_change_sized (C := Try.checked) own started (by kernel_rfl) Try.func13
    (ChangeSpec.witness6 (enc := enc) (C := Try.checked) false ⟨#[], #[.slice none 0 0, .agg #[.int .i64 0, .int .i64 0, .int .i64 0], .bool false], []⟩ 8 (by kernel_rfl) (by kernel_rfl) (by kernel_rfl) (by kernel_rfl)) ?_
  intro W base args ds gs before hval0 hW hcnd hsz0 _
  have hval : ∀ (j : Nat) t v, Try.f13.params[j]? = some t → args[j]? = some v → Value.okWide Try.prog W .any base t v := hval0
  have hW' := hW
  obtain ⟨p, q, hA0, hV, rfl, hfz, hnd⟩ := hW
  have hA : DataW.TrodAll enc Try.prog W 0 (fun _ => true) true Try.f13.params.toList args.toList ds p := hA0
  rw [Try.params13] at hA hval
  obtain ⟨v0, vs0, d0, ds0, p0, q0, hargs, rfl, rfl, h0, r0⟩ := trodAll_cons hA
  obtain ⟨v1, vs1, d1, ds1, p1, q1, rfl, rfl, rfl, h1, r1⟩ := trodAll_cons r0
  obtain ⟨v2, vs2, d2, ds2, p2, q2, rfl, rfl, rfl, h2, r2⟩ := trodAll_cons r1
  obtain ⟨rfl, rfl, rfl⟩ := trodAll_nil r2
  obtain rfl : args = #[v0, v1, v2] := by cases args; simp_all
  obtain ⟨rfl, rfl⟩ := trodVars_none hV
  have k0 := h0
  have lt0 : ∀ x ∈ p0, x.block < W.heap.size := by obtain ⟨m, hm⟩ := k0; exact DataW.trod_lt m _ _ _ hm
  have one0 : v0.oneCell' = true := by obtain ⟨_, _, _, rfl⟩ := okWide_slice Try.underlying55 (hval 0 55 v0 rfl rfl); rfl
  obtain ⟨a0, w0, rep0⟩ := argOne (opSlice Try.underlying55 (by kernel_rfl) (by decide) op_Lsa) one0 h0
  have k1 := h1
  have lt1 : ∀ x ∈ p1, x.block < W.heap.size := by obtain ⟨m, hm⟩ := k1; exact DataW.trod_lt m _ _ _ hm
  obtain ⟨cs1, rfl⟩ := okWide_aggA Try.underlying44 (hval 1 44 v1 rfl rfl)
  obtain ⟨a1, w1, rep1⟩ := argAgg op_n3 h1
  have k2 := h2
  have lt2 : ∀ x ∈ p2, x.block < W.heap.size := by obtain ⟨m, hm⟩ := k2; exact DataW.trod_lt m _ _ _ hm
  have one2 : v2.oneCell' = true := by obtain ⟨_, rfl⟩ := okWide_bool Try.underlying4 (hval 2 4 v2 rfl rfl); rfl
  obtain ⟨a2, w2, rep2⟩ := argOne (opBool Try.underlying4) one2 h2
  refine (law_calls (law45_WhatifFarther (db := a0) (n0 := a1.1) (n1 := a1.2.1) (n2 := a1.2.2) (node := a2) w0.2) (reps_cons rep0 (reps_cons rep1 (reps_cons rep2 reps_nil)))).mono fun e W' ⟨he, bel⟩ => ?_
  subst he
  exact ⟨_, rfl, _, _, _, [], _, [], hW', trodAll_mk1 (shut_bool Try.underlying4 _), (trodAll_cons_mk (Below.trod laidOut (by kernel_rfl) (of_decide_eq_true (by kernel_rfl)) k0 bel lt0) (trodAll_cons_mk (Below.trod laidOut (by kernel_rfl) (of_decide_eq_true (by kernel_rfl)) k1 bel lt1) (trodAll_cons_mk (Below.trod laidOut (by kernel_rfl) (of_decide_eq_true (by kernel_rfl)) k2 bel lt2) trodAll_mk0))), rfl, bel.frame _, fun h => by cases h⟩
theorem over : Rows.whatifFartherRow.holds Try.pinned (OpenSpec.ofChange Rows.whatifFartherSpec) :=
  OpenClaim.holds_of_wide 13 Try.f13 rfl rfl rfl rfl rfl rfl rfl ⟨rfl, rfl, rfl, rfl, rfl⟩ rfl rfl rfl rfl rfl (by kernel_rfl) Try.func13 closed
    (of_decide_eq_true (by kernel_rfl)) (by unfold Func.isWrapper; first | (rw [if_pos (by decide +kernel)]; kernel_rfl) | (rw [if_neg (by decide +kernel)]; exact ⟨rfl, rfl⟩))
    (fun os started H enc _ => lifted os started H enc)
theorem proved : Rows.WhatifFartherSaid := over
#print axioms proved
end Go.Proofs.Ytmcannmjielalaa.whatifFarther
