/- Texts that NodeNobody's proof rests on, part 17. -/
import Derived.KernelRfl
import Derived.Test.YthkgdhamnpiagaaGreatProg
import Derived.Test.YthkgdhamnpiagaaGreatS15NodeNobody
set_option linter.unusedVariables false
set_option linter.unusedSimpArgs false
namespace Go.Proofs.YthkgdhamnpiagaaGreat
namespace A
theorem putDb_no {l : List Lsa} {x : Lsa} (h : hasK kL l x.o = false) : putDb l x = some (insK kL l x) := by
 show (if hasK kL l x.o = true then (if newerB x (l.getD (posK kL l x.o) lsa0) = true then some (l.set (posK kL l x.o) x) else none) else some (insK kL l x)) = _
 rw [if_neg (by rw [h]; decide)]
theorem putDb_at {l : List Lsa} {x y : Lsa} (h : hasK kL l x.o = true) (hy : l[posK kL l x.o]? = some y) : putDb l x = if newerB x y = true then some (l.set (posK kL l x.o) x) else none := by
 show (if hasK kL l x.o = true then (if newerB x (l.getD (posK kL l x.o) lsa0) = true then some (l.set (posK kL l x.o) x) else none) else some (insK kL l x)) = _
 rw [if_pos h, getD_at hy]
theorem putDb_mem {l d : List Lsa} {x z : Lsa} (h : putDb l x = some d) (hz : z ∈ d) : z = x ∨ z ∈ l := by
 change (if hasK kL l x.o = true then (if newerB x (l.getD (posK kL l x.o) lsa0) = true then some (l.set (posK kL l x.o) x) else none) else some (insK kL l x)) = some d at h
 split at h
 ·split at h
  ·cases h
   rcases List.mem_or_eq_of_mem_set hz with h1 | h1
   ·exact .inr h1
   ·exact .inl h1
  ·cases h
 ·cases h
  exact mem_insK.1 hz
/- lsdb.Put -/
def lsdb_Put_r8_T : Bool × List (List Nat × List Nat) := (true, [([], []), ([], []), ([], []), ([1, 2], [1, 2]), ([3], [3]), ([0, 4], [0, 4]), ([5, 5], [5])])
def lsdb_Put_r8_B : List Nat := [0, 0, 0, 6, 14, 31, 63]
theorem lsdb_Put_r8_t : Go.Proofs.YthkgdhamnpiagaaGreatW.PrintLast.rtab .any (Go.Proofs.YthkgdhamnpiagaaGreatW.PrintLast.opsOf Tryz.f220 8) = lsdb_Put_r8_T := by kernel_rfl
theorem lsdb_Put_r8_b : Go.Proofs.YthkgdhamnpiagaaGreatW.PrintLast.waitsOk lsdb_Put_r8_T.2 lsdb_Put_r8_B = true := by kernel_rfl
set_option maxRecDepth 100000 in
set_option maxHeartbeats 4000000 in
theorem lsdb_Put {l : List Lsa} {x : Lsa} (hl : l.length ≤ 1000000) : Triple Tryz.prog 220 [.sl 3 (l.map lsaC), .agg (lsaC x)] [] (Is (.tup [.sl 3 ((lsdbPut l x).1.map lsaC), .int (lsdbPut l x).2]) []) := by
 refine triple_of Tryz.func220 rfl (by kernel_rfl) rfl (by simp) ?_
 refine aSeq ?_
 refine aReg ?_
 refine sq ?_
 refine qBox rfl rfl (by decide) rfl rfl (fun b3 => ?_)
 refine sp pMa ?_
 refine sp pMa ?_
 refine oNil ?_
 refine aSeq ?_
 refine aSeq ?_
 refine aReg ?_
 refine sp pM ?_
 refine sq ?_
 refine ci rfl rfl rfl (lsdb_Check (l := l) (by omega)) ?_
 refine sp pB ?_
 refine sp pM ?_
 refine oSplitNe 13 rfl (fun c13 => ?_) (fun c13 => ?_)
 ·skip
  refine gf ?_
  refine gf ?_
  refine gf ?_
  refine sp pK ?_
  refine oNil ?_
  refine aCondT rfl ?_
  refine aSeq ?_
  refine aReg ?_
  refine sp pMa ?_
  refine sp pMa ?_
  refine oNil ?_
  have hP : lsdbPut l x = ([], 1) := by unfold lsdbPut; rw [if_pos (by cases h1 : lsdbB 0 l <;> cases h2 : lsaB x <;> simp_all)]
  rw [hP]
  refine aWeak (weak_cast (k := 4) (b := .sl 3 []) rfl cast_nil) ?_
  refine aRet ?_
  exact finIs rfl rfl
 ·skip
  refine gr (by first | exact rBWa ty_55 | exact rBW ty_55 | exact rBA ty_55) ?_
  refine ga ?_
  refine (ci rfl rfl rfl (lsa_Check (l := x)) ?_).op
  refine gp pB ?_
  refine sp pK ?_
  refine oNil ?_
  refine aCondNe rfl (fun c17 => ?_) (fun c17 => ?_)
  ·skip
   refine aSeq ?_
   refine aReg ?_
   refine sp pMa ?_
   refine sp pMa ?_
   refine oNil ?_
   have hP : lsdbPut l x = ([], 1) := by unfold lsdbPut; rw [if_pos (by cases h1 : lsdbB 0 l <;> cases h2 : lsaB x <;> simp_all)]
   rw [hP]
   refine aWeak (weak_cast (k := 4) (b := .sl 3 []) rfl cast_nil) ?_
   refine aRet ?_
   exact finIs rfl rfl
  ·skip
   refine aSkip ?_
   refine aSeq ?_
   have hv : lsdbB 0 l = true := by cases hv : lsdbB 0 l <;> simp_all
   have hxv : lsaB x = true := by cases hxv : lsaB x <;> simp_all
   have h64 := lsdb_len64 hv
   refine aReg ?_
   refine sp pM ?_
   refine sa ?_
   first | refine coM rfl rfl rfl (clone_Lsa (l := l) (by omega)) (fun g19 k19 => ?_) | refine co rfl rfl rfl (clone_Lsa (l := l) (by omega)) (fun g19 k19 => ?_)
   refine sp pMa ?_
   refine oNil ?_
   refine aSeq ?_
   refine aReg ?_
   refine sp pM ?_
   refine sp (pFb fd_55_0) ?_
   refine sr (rB1 ty_3) ?_
   refine sq ?_
   refine civ rfl rfl rfl (by repeat (first | exact .nil | refine .cons (.sl (by repeat (first | exact List.mem_cons_self | apply List.mem_cons_of_mem)) (by first | rfl | simp)) ?_ | refine .cons (.same _) ?_)) (lsdb_find (l := l) (n := x.o) (lsdb_sorted hv).2 (by omega)) flat2 ?_
   refine sp pM ?_
   refine sp pX ?_
   refine sp pX ?_
   refine sp pMa ?_
   refine sp pMa ?_
   refine oNil ?_
   refine aSeq ?_
   refine aBlock ?_
   refine aSeq ?_
   refine aReg ?_
   refine sp pM ?_
   refine sp pNo ?_
   refine sp pMa ?_
   refine oNil ?_
   refine aCondNot rfl (fun c27 => ?_) (fun c27 => ?_)
   ·skip
    refine aReg ?_
    refine sp pM ?_
    refine sp pM ?_
    refine sr (by first | exact rBWa ty_55 | exact rBW ty_55 | exact rBA ty_55) ?_
    refine sq ?_
    refine qLit (l := [_]) rfl rfl (by decide) us_32 ty_55 ze_55 rfl (by decide) (by decide) rfl rfl rfl (fun b33 => ?_)
    refine sa ?_
    first | refine coM rfl rfl rfl (insert_Lsa (l := l) (x := x) (posK_le l x.o) (by omega)) (fun g34 k34 => ?_) | refine co rfl rfl rfl (insert_Lsa (l := l) (x := x) (posK_le l x.o) (by omega)) (fun g34 k34 => ?_)
    refine sp pMa ?_
    refine oNil ?_
    refine aSeq ?_
    refine aSeq ?_
    refine aReg ?_
    refine sp pM ?_
    refine sp (by first | exact pLm sl_32 | exact pLs sl_32 | exact pLv sl_32) ?_
    refine sp pM ?_
    refine oNil ?_
    refine aBlock ?_
    refine loopF (α := Nat × List Lsa × Option Nat × Nat) (kept := []) (fun (i, d, g, c) => i ≤ d.length ∧ d.length ≤ 100 ∧ putDb l x = some d) (fun (i, d, g, c) => [(48, .int i), (6, .v (slV g d.length c)), (47, .int d.length)]) (fun (i, d, g, c) => [.sl g c 55 3 (d.map lsaC)]) (fun (i, d, g, c) => d.length - i) (0, _, _, _) ?_ ⟨gInt rfl (by first | rfl | omega | simp), gLen rfl (by first | rfl | simp | (simp; omega)), gInt rfl (by first | rfl | omega | simp), trivial⟩ (by repeat constructor) ?_
    ·skip
     first
       | exact ⟨by omega, by rw [show ∀ (a b : List Lsa), a ++ b = a ++ b from fun _ _ => rfl]; have := insK_len (f := kL) l x; unfold insK at this; show (l.take (posK kL l x.o) ++ x :: l.drop (posK kL l x.o)).length ≤ 100; rw [show (l.take (posK kL l x.o) ++ x :: l.drop (posK kL l x.o)).length = l.length + 1 from this]; omega, putDb_no (by simp_all)⟩
       | exact ⟨by omega, by rw [List.length_set]; omega, by rw [hPA, if_pos (by simp_all)]⟩
    ·rintro ⟨i, d, g, c⟩ ⟨hi, hdl, hd⟩
     refine aSeq ?_
     refine aReg ?_
     refine sp pB ?_
     refine oNil ?_
     refine aSeq ?_
     refine aCondDec rfl (fun c49 => ?_) (fun c49 => ?_)
     ·skip
      refine aSkip ?_
      refine aSeq ?_
      refine aBlock ?_
      refine aSeq ?_
      refine aReg ?_
      refine sp pM ?_
      refine sp pMa ?_
      refine oNil ?_
      obtain ⟨z, hz⟩ : ∃ z, d[i]? = some z := ⟨_, List.getElem?_eq_getElem (by omega)⟩
      have hzx := (List.getElem?_eq_some_iff.1 hz).1
      have hzl : z.ls.length ≤ 16 := by
        rcases putDb_mem hd (List.mem_of_getElem? hz) with rfl | h1
        ·exact lsa_links hxv
        ·exact lsa_links (lsdb_mem hv z h1)
      refine aSome (g := g) (c := c) (e := 55) (sz := 3) (es := d.map lsaC) (by repeat constructor) (by intro e; have e2 := congrArg List.length e; rw [List.length_map, List.length_nil] at e2; omega) (fun b hb => ?_)
      subst hb
      refine aReg ?_
      refine sp pM ?_
      refine sp pM ?_
      refine sp pM ?_
      refine sp pM ?_
      first | refine sp (pIx es_32) ?_ | (refine obtSN 53 54 rfl rfl (by omega) (fun x55 hx55 => ?_); refine sp (pIs es_32 hx55) ?_) | (refine obtS 53 54 rfl rfl (by omega) (by omega) (fun x55 hx55 => ?_); refine sp (pIs es_32 hx55) ?_) | refine sp (pIo es_32) ?_
      refine sr (rOA ty_55 hz) ?_
      refine sq ?_
      refine ci rfl rfl rfl (lsa_Copy (l := z) (by have := hzl; omega)) ?_
      first | refine sp (pIx es_32) ?_ | (refine obtSN 51 52 rfl rfl (by omega) (fun x58 hx58 => ?_); refine sp (pIs es_32 hx58) ?_) | (refine obtS 51 52 rfl rfl (by omega) (by omega) (fun x58 hx58 => ?_); refine sp (pIs es_32 hx58) ?_) | refine sp (pIo es_32) ?_
      refine sa ?_
      refine oStE (fC := lsaC) (l := d) (a := z) (i := ((i : Nat) : Int)) rfl rfl rfl rfl ty_55 ?_
      rw [show d.set ((i : Int)).toNat z = d from set_same hz]
      refine oNil ?_
      refine aReg ?_
      refine sp pAd ?_
      refine sp pM ?_
      refine oNil ?_
      refine ⟨(i + 1, d, _, _), ?_, by (try dsimp only); omega, ⟨gInt rfl (by first | rfl | omega | simp), gLen rfl (by first | rfl | simp | (simp; omega)), gInt rfl (by first | rfl | omega | simp), trivial⟩, _, (by repeat constructor)⟩
      exact ⟨by omega, hdl, hd⟩
     ·skip
      refine aExit rfl ?_
      refine aSeq ?_
      refine aReg ?_
      refine sp pM ?_
      refine sp pMa ?_
      refine sp pMa ?_
      refine oNil ?_
      have hP : lsdbPut l x = (d, 0) := by unfold lsdbPut; rw [if_neg (by rw [hv, hxv]; simp), hd]
      rw [hP]
      refine aWeak (weak_settle (k := 4) rfl (by repeat constructor) (by simp)) ?_
      refine aRet ?_
      exact finIs rfl rfl
   ·skip
    refine aSeq ?_
    obtain ⟨y, hy, hyo⟩ := hasK_at (f := kL) (lsdb_sorted hv).2 (n := x.o) (by simp_all)
    have hyl := (List.getElem?_eq_some_iff.1 hy).1
    have hPA := putDb_at (x := x) (by simp_all) hy
    refine aSome (g := g19) (c := k19) (e := 55) (sz := 3) (es := l.map lsaC) (by repeat constructor) (by intro e; have e2 := congrArg List.length e; rw [List.length_map, List.length_nil] at e2; omega) (fun b hb => ?_)
    subst hb
    refine aDrawT lsdb_Put_r8_t lsdb_Put_r8_b [] 7 #[false, false, false, false, false, false, false] (by kernel_rfl) rfl rfl (fun HT => ?_)
    refine dr HT 0 rfl (by first | exact rBWa ty_55 | exact rBW ty_55 | exact rBA ty_55) ?_
    refine dp HT 1 rfl pM ?_
    refine dp HT 2 rfl pM ?_
    first | refine dp HT 3 rfl (pIx es_32) ?_ | (refine obtDN 37 38 rfl rfl (by omega) (fun x39 hx39 => ?_); refine dp HT 3 rfl (pIs es_32 hx39) ?_) | (refine obtD 37 38 rfl rfl (by omega) (by omega) (fun x39 hx39 => ?_); refine dp HT 3 rfl (pIs es_32 hx39) ?_) | refine dp HT 3 rfl (pIo es_32) ?_
    refine dr HT 4 rfl (rOA ty_55 hy) ?_
    refine dGo ?_
    refine e1 HT 5 rfl ?_
    refine cv rfl rfl rfl (lents_refl _) (lsa_Newer (a := x) (b := y)) ?_
    refine ef HT 6 rfl pMa ?_
    refine eE HT ?_
    clear HT
    refine aCond rfl (fun c35 => ?_) (fun c35 => ?_)
    ·skip
     refine aReg ?_
     refine sp pM ?_
     refine sp pM ?_
     refine sr (by first | exact rBWa ty_55 | exact rBW ty_55 | exact rBA ty_55) ?_
     first | refine sp (pIx es_32) ?_ | (refine obtSN 42 43 rfl rfl (by omega) (fun x45 hx45 => ?_); refine sp (pIs es_32 hx45) ?_) | (refine obtS 42 43 rfl rfl (by omega) (by omega) (fun x45 hx45 => ?_); refine sp (pIs es_32 hx45) ?_) | refine sp (pIo es_32) ?_
     refine sa ?_
     refine oStE (fC := lsaC) (l := l) (a := x) (i := ((posK kL l x.o : Nat) : Int)) rfl rfl rfl rfl ty_55 ?_
     refine oWeak (weak_av (k := 6) (a' := .v (slV (some b) (l.set (posK kL l x.o) x).length k19)) rfl (by rw [List.length_set])) ?_
     refine oNil ?_
     refine aSeq ?_
     refine aSeq ?_
     refine aReg ?_
     refine sp pM ?_
     refine sp (by first | exact pLm sl_32 | exact pLs sl_32 | exact pLv sl_32) ?_
     refine sp pM ?_
     refine oNil ?_
     refine aBlock ?_
     refine loopF (α := Nat × List Lsa × Option Nat × Nat) (kept := []) (fun (i, d, g, c) => i ≤ d.length ∧ d.length ≤ 100 ∧ putDb l x = some d) (fun (i, d, g, c) => [(48, .int i), (6, .v (slV g d.length c)), (47, .int d.length)]) (fun (i, d, g, c) => [.sl g c 55 3 (d.map lsaC)]) (fun (i, d, g, c) => d.length - i) (0, _, _, _) ?_ ⟨gInt rfl (by first | rfl | omega | simp), gLen rfl (by first | rfl | simp | (simp; omega)), gInt rfl (by first | rfl | omega | simp), trivial⟩ (by repeat constructor) ?_
     ·skip
      first
        | exact ⟨by omega, by rw [show ∀ (a b : List Lsa), a ++ b = a ++ b from fun _ _ => rfl]; have := insK_len (f := kL) l x; unfold insK at this; show (l.take (posK kL l x.o) ++ x :: l.drop (posK kL l x.o)).length ≤ 100; rw [show (l.take (posK kL l x.o) ++ x :: l.drop (posK kL l x.o)).length = l.length + 1 from this]; omega, putDb_no (by simp_all)⟩
        | exact ⟨by omega, by rw [List.length_set]; omega, by rw [hPA, if_pos (by simp_all)]⟩
     ·rintro ⟨i, d, g, c⟩ ⟨hi, hdl, hd⟩
      refine aSeq ?_
      refine aReg ?_
      refine sp pB ?_
      refine oNil ?_
      refine aSeq ?_
      refine aCondDec rfl (fun c49 => ?_) (fun c49 => ?_)
      ·skip
       refine aSkip ?_
       refine aSeq ?_
       refine aBlock ?_
       refine aSeq ?_
       refine aReg ?_
       refine sp pM ?_
       refine sp pMa ?_
       refine oNil ?_
       obtain ⟨z, hz⟩ : ∃ z, d[i]? = some z := ⟨_, List.getElem?_eq_getElem (by omega)⟩
       have hzx := (List.getElem?_eq_some_iff.1 hz).1
       have hzl : z.ls.length ≤ 16 := by
         rcases putDb_mem hd (List.mem_of_getElem? hz) with rfl | h1
         ·exact lsa_links hxv
         ·exact lsa_links (lsdb_mem hv z h1)
       refine aSome (g := g) (c := c) (e := 55) (sz := 3) (es := d.map lsaC) (by repeat constructor) (by intro e; have e2 := congrArg List.length e; rw [List.length_map, List.length_nil] at e2; omega) (fun b hb => ?_)
       subst hb
       refine aReg ?_
       refine sp pM ?_
       refine sp pM ?_
       refine sp pM ?_
       refine sp pM ?_
       first | refine sp (pIx es_32) ?_ | (refine obtSN 53 54 rfl rfl (by omega) (fun x55 hx55 => ?_); refine sp (pIs es_32 hx55) ?_) | (refine obtS 53 54 rfl rfl (by omega) (by omega) (fun x55 hx55 => ?_); refine sp (pIs es_32 hx55) ?_) | refine sp (pIo es_32) ?_
       refine sr (rOA ty_55 hz) ?_
       refine sq ?_
       refine ci rfl rfl rfl (lsa_Copy (l := z) (by have := hzl; omega)) ?_
       first | refine sp (pIx es_32) ?_ | (refine obtSN 51 52 rfl rfl (by omega) (fun x58 hx58 => ?_); refine sp (pIs es_32 hx58) ?_) | (refine obtS 51 52 rfl rfl (by omega) (by omega) (fun x58 hx58 => ?_); refine sp (pIs es_32 hx58) ?_) | refine sp (pIo es_32) ?_
       refine sa ?_
       refine oStE (fC := lsaC) (l := d) (a := z) (i := ((i : Nat) : Int)) rfl rfl rfl rfl ty_55 ?_
       rw [show d.set ((i : Int)).toNat z = d from set_same hz]
       refine oNil ?_
       refine aReg ?_
       refine sp pAd ?_
       refine sp pM ?_
       refine oNil ?_
       refine ⟨(i + 1, d, _, _), ?_, by (try dsimp only); omega, ⟨gInt rfl (by first | rfl | omega | simp), gLen rfl (by first | rfl | simp | (simp; omega)), gInt rfl (by first | rfl | omega | simp), trivial⟩, _, (by repeat constructor)⟩
       exact ⟨by omega, hdl, hd⟩
      ·skip
       refine aExit rfl ?_
       refine aSeq ?_
       refine aReg ?_
       refine sp pM ?_
       refine sp pMa ?_
       refine sp pMa ?_
       refine oNil ?_
       have hP : lsdbPut l x = (d, 0) := by unfold lsdbPut; rw [if_neg (by rw [hv, hxv]; simp), hd]
       rw [hP]
       refine aWeak (weak_settle (k := 4) rfl (by repeat constructor) (by simp)) ?_
       refine aRet ?_
       exact finIs rfl rfl
    ·skip
     refine aSeq ?_
     refine aReg ?_
     refine sp pMa ?_
     refine sp pMa ?_
     refine oNil ?_
     have hP : lsdbPut l x = ([], 10) := by unfold lsdbPut; rw [if_neg (by rw [hv, hxv]; simp), hPA, if_neg (by simp_all)]
     rw [hP]
     refine aWeak (weak_cast (k := 4) (b := .sl 3 []) rfl cast_nil) ?_
     refine aRet ?_
     exact finIs rfl rfl
end A
end Go.Proofs.YthkgdhamnpiagaaGreat
namespace Go.Proofs.YthkgdhamnpiagaaGreat
namespace A
theorem eq_134 : eqType Tryz.prog 134 = some [(0, .i), (1, .i)] := by kernel_rfl
def mustB (db : List Lsa) (me : Int) (t : List Nr) (first : Int) : Bool :=
 if lsdbB 0 db = true ∧ tabB t = true ∧ nodeB me = true then !(getDb db me).2 || (decide ((getDb db me).1.s < first) || !decide ((getDb db me).1.ls = linksT t)) else false
def lsaOf (me seq : Int) (t : List Nr) : Lsa := ⟨me, seq, linksT t⟩
def makeL (me seq : Int) (t : List Nr) : Lsa × Int := if tabB t = true ∧ (getT t me).2 = false ∧ lsaB (lsaOf me seq t) = true then (lsaOf me seq t, 0) else (lsa0, 1)
/-- The space by which a node tells. -/
def planS (s : Spc) : Spc := if (takeS s).2.2 = 0 then s else (grantS s (wantS s).1).1
def planL (db : List Lsa) (me : Int) (t : List Nr) (s : Spc) : List Chg × Spc × Int :=
 if (makeL me 1 t).2 ≠ 0 ∨ lsdbB 0 db = false ∨ (wantS s).2 = 1 then ([], sp0, 1) else
 if (takeS s).2.2 ≠ 0 ∧ (wantS s).2 ≠ 0 then ([], sp0, (wantS s).2) else
 if (lsdbPut db (makeL me (takeS (planS s)).1 t).1).2 ≠ 0 then ([], sp0, 1) else
 ((if (takeS s).2.2 = 0 then [] else [⟨2, lsa0, (wantS s).1, 0⟩]) ++ [⟨1, (makeL me (takeS (planS s)).1 t).1, 0, 0⟩], (takeS (planS s)).2.1, 0)
theorem linksT_len {t : List Nr} : (linksT t).length ≤ 16 := by
 unfold linksT thoseT
 split
 ·rename_i h
  have := tab_len h
  have h2 := List.length_filter_le (fun n : Nr => n.u) t
  rw [List.length_map]
  omega
 ·simp
theorem getDb_len {db : List Lsa} {n : Int} : (getDb db n).1.ls.length ≤ 16 := by
 unfold getDb
 split
 ·rename_i h
  obtain ⟨x, hx, _⟩ := hasK_at (f := kL) (lsdb_sorted h.1).2 (n := n) h.2
  rw [getD_at hx]
  exact lsa_links (lsdb_mem h.1 x (List.mem_of_getElem? hx))
 ·simp [lsa0]
/- api.Link] -/
def equal_Link_r6_T : Bool × List (List Nat × List Nat) := (true, [([], []), ([], []), ([0, 1], [0, 1]), ([2], [2]), ([], []), ([], []), ([4, 5], [4, 5]), ([6], [6]), ([3, 7], [3, 7])])
def equal_Link_r6_B : List Nat := [0, 0, 3, 7, 0, 0, 48, 112, 255]
theorem equal_Link_r6_t : Go.Proofs.YthkgdhamnpiagaaGreatW.PrintLast.rtab .any (Go.Proofs.YthkgdhamnpiagaaGreatW.PrintLast.opsOf Tryz.f214 6) = equal_Link_r6_T := by kernel_rfl
theorem equal_Link_r6_b : Go.Proofs.YthkgdhamnpiagaaGreatW.PrintLast.waitsOk equal_Link_r6_T.2 equal_Link_r6_B = true := by kernel_rfl
set_option maxRecDepth 100000 in
set_option maxHeartbeats 400000 in
theorem equal_Link {a b : List Link} (ha : a.length < 9223372036854775807 := by omega) (hb : b.length < 9223372036854775807 := by omega) : Triple Tryz.prog 214 [.sl 2 (a.map linkC), .sl 2 (b.map linkC)] [] (Is (.v (.bool (decide (a = b)))) []) := by
 refine triple_of Tryz.func214 rfl (by kernel_rfl) rfl (by simp) ?_
 refine aSeq ?_
 refine aReg ?_
 refine sp pMa ?_
 refine oNil ?_
 refine aSeq ?_
 refine aSeq ?_
 refine aReg ?_
 refine sp pM ?_
 refine sp (by first | exact pLm sl_53 | exact pLs sl_53) ?_
 refine sp pM ?_
 refine sp (by first | exact pLm sl_53 | exact pLs sl_53) ?_
 refine sp pB ?_
 refine oNil ?_
 refine aCondNe rfl (fun c10 => ?_) (fun c10 => ?_)
 ·skip
  refine aSeq ?_
  refine aReg ?_
  refine sp pMa ?_
  refine oNil ?_
  refine aRet ?_
  refine finIs rfl ?_
  rw [decide_eq_false (fun e => by subst e; simp_all)]
  rfl
 ·skip
  refine aSkip ?_
  refine aSeq ?_
  refine aSeq ?_
  refine aReg ?_
  refine sp pM ?_
  refine sp (by first | exact pLm sl_53 | exact pLs sl_53) ?_
  refine sp pM ?_
  refine oNil ?_
  refine aBlock ?_
  refine loopF (α := Nat) (kept := [(0, _), (1, _), (12, _)]) (fun i => i ≤ a.length ∧ a.length = b.length ∧ a.take i = b.take i) (fun i => [(13, .int i)]) (fun i => []) (fun i => a.length - i) 0 ?_ ⟨gInt rfl (by first | rfl | omega | simp), rfl, rfl, rfl, trivial⟩ (by repeat constructor) ?_
  ·skip
   exact ⟨by omega, by omega, rfl⟩
  ·rintro i ⟨hi, hl, hv⟩
   refine aSeq ?_
   refine aReg ?_
   refine sp pB ?_
   refine oNil ?_
   refine aSeq ?_
   refine aCondDec rfl (fun c14 => ?_) (fun c14 => ?_)
   ·skip
    refine aSkip ?_
    refine aSeq ?_
    refine aBlock ?_
    refine aSeq ?_
    refine aReg ?_
    refine sp pM ?_
    refine sp pMa ?_
    refine oNil ?_
    refine aSeq ?_
    refine aDrawT equal_Link_r6_t equal_Link_r6_b [] 9 #[false, false, false, false, false, false, false, false, false] (by kernel_rfl) rfl rfl (fun HT => ?_)
    refine dp HT 0 rfl pM ?_
    refine dp HT 1 rfl pM ?_
    first | refine dp HT 2 rfl (pIx es_53) ?_ | (refine obtDN 16 17 rfl rfl (by omega) (fun x18 hx18 => ?_); refine dp HT 2 rfl (pIs es_53 hx18) ?_) | (refine obtD 16 17 rfl rfl (by omega) (by omega) (fun x18 hx18 => ?_); refine dp HT 2 rfl (pIs es_53 hx18) ?_) | refine dp HT 2 rfl (pIo es_53) ?_
    refine dr HT 3 rfl (by first | exact rSW ty_134 rfl | exact rSA ty_134) ?_
    refine dp HT 4 rfl pM ?_
    refine dp HT 5 rfl pM ?_
    first | refine dp HT 6 rfl (pIx es_53) ?_ | (refine obtDN 20 21 rfl rfl (by omega) (fun x22 hx22 => ?_); refine dp HT 6 rfl (pIs es_53 hx22) ?_) | (refine obtD 20 21 rfl rfl (by omega) (by omega) (fun x22 hx22 => ?_); refine dp HT 6 rfl (pIs es_53 hx22) ?_) | refine dp HT 6 rfl (pIo es_53) ?_
    refine dr HT 7 rfl (by first | exact rSW ty_134 rfl | exact rSA ty_134) ?_
    refine dp HT 8 rfl (pEqAn eq_134) ?_
    refine dE HT ?_
    clear HT
    refine aCond rfl (fun c24 => ?_) (fun c24 => ?_)
    ·skip
     refine aSeq ?_
     refine aReg ?_
     refine sp pMa ?_
     refine oNil ?_
     refine aRet ?_
     refine finIs rfl ?_
     rw [decide_eq_false (fun e => by subst e; obtain rfl := Option.some.inj (hx18.symm.trans hx22); simp_all)]
     rfl
    ·skip
     refine aSkip ?_
     refine aReg ?_
     refine sp pAd ?_
     refine sp pM ?_
     refine oNil ?_
     refine ⟨i + 1, ?_, by (try dsimp only); omega, ⟨gInt rfl (by first | rfl | omega | simp), rfl, rfl, rfl, trivial⟩, _, (by repeat constructor)⟩
     have hxy : x18 = x22 := by
       cases x18
       cases x22
       simp_all
     exact ⟨by omega, hl, by rw [take_step hx18, take_step hx22, hv, hxy]⟩
   ·skip
    refine aExit rfl ?_
    refine aSeq ?_
    refine aReg ?_
    refine sp pMa ?_
    refine oNil ?_
    refine aRet ?_
    refine finIs rfl ?_
    rw [take_all (by omega), take_all (by omega)] at hv
    rw [decide_eq_true hv]
    rfl
/- own.node -/
set_option maxRecDepth 100000 in
set_option maxHeartbeats 400000 in
theorem own_node {n : Int} : Triple Tryz.prog 213 [.int n] [] (Is (.v (.bool (nodeB n))) []) := by
 refine triple_of Tryz.func213 rfl (by kernel_rfl) rfl (by simp) ?_
 refine aSeq ?_
 refine aReg ?_
 refine sp pMa ?_
 refine oNil ?_
 refine aSeq ?_
 refine aReg ?_
 refine sp pM ?_
 refine sp pB ?_
 refine sp pM ?_
 refine oSplitDec 5 rfl (fun c5 => ?_) (fun c5 => ?_)
 ·skip
  refine gp pM ?_
  refine gp pB ?_
  refine sp pK ?_
  refine sp pMa ?_
  refine oNil ?_
  refine aRet ?_
  refine finIs rfl ?_
  simp [retOf, nodeB]
  omega
 ·skip
  refine gf ?_
  refine gf ?_
  refine sp pK ?_
  refine sp pMa ?_
  refine oNil ?_
  refine aRet ?_
  refine finIs rfl ?_
  simp [retOf, nodeB]
  omega
/- own.Must -/
def own_Must_r4_T : Bool × List (List Nat × List Nat) := (true, [([], []), ([0], [0]), ([1], [1]), ([2], [2]), ([3, 2], [2, 3]), ([2], [2]), ([4, 5, 2], [2, 4, 5]), ([2, 6], [2, 6]), ([7, 2], [7]), ([8], [8]), ([9, 8], [8, 9]), ([8], [8]), ([11, 8, 8], [8, 11]), ([10, 12, 12, 8], [8, 10, 12]), ([13, 8], [8, 13]), ([8, 14], [8, 14]), ([15, 13, 0, 1, 2, 3, 4, 5, 6, 7, 8, 9, 10, 11, 12, 13, 14, 15], [15])])
def own_Must_r4_B : List Nat := [0, 1, 3, 7, 15, 7, 63, 127, 255, 511, 1023, 511, 2559, 8191, 16383, 32767, 65535]
theorem own_Must_r4_t : Go.Proofs.YthkgdhamnpiagaaGreatW.PrintLast.rtab .any (Go.Proofs.YthkgdhamnpiagaaGreatW.PrintLast.opsOf Tryz.f122 4) = own_Must_r4_T := by kernel_rfl
theorem own_Must_r4_b : Go.Proofs.YthkgdhamnpiagaaGreatW.PrintLast.waitsOk own_Must_r4_T.2 own_Must_r4_B = true := by kernel_rfl
set_option maxRecDepth 100000 in
set_option maxHeartbeats 2000000 in
theorem own_Must {db : List Lsa} {me first : Int} {t : List Nr} (hd : db.length ≤ 1000000) (ht : t.length ≤ 1000000) : Triple Tryz.prog 122 [.sl 3 (db.map lsaC), .int me, .sl 8 (t.map nrC), .int first] [] (Is (.v (.bool (mustB db me t first))) []) := by
 have hg := getDb_len (db := db) (n := me)
 have hlk := linksT_len (t := t)
 refine triple_of Tryz.func122 rfl (by kernel_rfl) rfl (by simp) ?_
 refine aSeq ?_
 refine aReg ?_
 refine sp pMa ?_
 refine oNil ?_
 refine aSeq ?_
 refine aSeq ?_
 refine aReg ?_
 refine sp pM ?_
 refine sq ?_
 refine ci rfl rfl rfl (lsdb_Check (l := db) (by omega)) ?_
 refine sp pB ?_
 refine sp pM ?_
 refine oSplitNe 14 rfl (fun c14 => ?_) (fun c14 => ?_)
 ·skip
  refine gf ?_
  refine gf ?_
  refine gf ?_
  refine sp pK ?_
  refine sp pM ?_
  refine gf ?_
  refine gf ?_
  refine gf ?_
  refine sp pK ?_
  refine oNil ?_
  refine aCondT rfl ?_
  refine aSeq ?_
  refine aReg ?_
  refine sp pMa ?_
  refine oNil ?_
  refine aRet ?_
  refine finIs rfl ?_
  have hM : mustB db me t first = false := by unfold mustB; rw [if_neg (by cases h1 : lsdbB 0 db <;> cases h2 : tabB t <;> cases h3 : nodeB me <;> simp_all)]
  rw [hM]
  rfl
 ·skip
  refine gp pM ?_
  refine ga ?_
  refine (ci rfl rfl rfl (table_Check (l := t) (by omega)) ?_).op
  refine gp pB ?_
  refine sp pK ?_
  refine sp pM ?_
  refine oSplitNe 19 rfl (fun c19 => ?_) (fun c19 => ?_)
  ·skip
   refine gf ?_
   refine gf ?_
   refine gf ?_
   refine sp pK ?_
   refine oNil ?_
   refine aCondT rfl ?_
   refine aSeq ?_
   refine aReg ?_
   refine sp pMa ?_
   refine oNil ?_
   refine aRet ?_
   refine finIs rfl ?_
   have hM : mustB db me t first = false := by unfold mustB; rw [if_neg (by cases h1 : lsdbB 0 db <;> cases h2 : tabB t <;> cases h3 : nodeB me <;> simp_all)]
   rw [hM]
   rfl
  ·skip
   refine gp pM ?_
   refine ga ?_
   refine (cv rfl rfl rfl (lents_refl _) own_node ?_).op
   refine gp pNo ?_
   refine sp pK ?_
   refine oNil ?_
   refine aCondNot rfl (fun c23 => ?_) (fun c23 => ?_)
   ·skip
    refine aSeq ?_
    refine aReg ?_
    refine sp pMa ?_
    refine oNil ?_
    refine aRet ?_
    refine finIs rfl ?_
    have hM : mustB db me t first = false := by unfold mustB; rw [if_neg (by cases h1 : lsdbB 0 db <;> cases h2 : tabB t <;> cases h3 : nodeB me <;> simp_all)]
    rw [hM]
    rfl
   ·skip
    refine aSkip ?_
    refine aSeq ?_
    refine aReg ?_
    refine sp pM ?_
    refine sp pM ?_
    refine sq ?_
    refine ci rfl rfl rfl (lsdb_Get (l := db) (n := me) (by omega)) ?_
    refine sp pM ?_
    refine sp pX ?_
    refine sp pX ?_
    refine sq ?_
    refine qAlloc rfl rfl (by decide) ze_55 rfl (fun b9 => ?_)
    refine sa ?_
    refine oStW rfl rfl rfl rfl (by repeat constructor) ty_55 ?_
    refine sp pMa ?_
    refine oNil ?_
    refine aSeq ?_
    refine aDrawT own_Must_r4_t own_Must_r4_b [] 17 #[false, false, false, false, false, false, false, false, false, false, false, false, false, false, false, false, false] (by kernel_rfl) rfl rfl (fun HT => ?_)
    refine dp HT 0 rfl pM ?_
    refine dp HT 1 rfl pNo ?_
    refine dp HT 2 rfl pM ?_
    refine dSplitNot 32 rfl (fun c32 => ?_) (fun c32 => ?_)
    ·skip
     refine dS HT 3 rfl ?_
     refine dS HT 4 rfl ?_
     refine dS HT 5 rfl ?_
     refine dS HT 6 rfl ?_
     refine dp HT 7 rfl pK ?_
     refine dp HT 8 rfl pM ?_
     refine dS HT 9 rfl ?_
     refine dS HT 10 rfl ?_
     refine dS HT 11 rfl ?_
     refine dGo ?_
     refine eS HT 12 rfl ?_
     refine eS HT 13 rfl ?_
     refine eS HT 14 rfl ?_
     refine ef HT 15 rfl pK ?_
     refine ePure (i := 16) #[true, true, true, true, true, true, true, true, true, true, true, true, true, true, true, true, true] rfl rfl rfl (HT.any (by kernel_rfl)) (by exact pMa) (by decide) ?_
     refine eE HT ?_
     clear HT
     refine aRet ?_
     refine finIs rfl ?_
     have hM : mustB db me t first = (!(getDb db me).2 || (decide ((getDb db me).1.s < first) || !decide ((getDb db me).1.ls = linksT t))) := by unfold mustB; rw [if_pos (by cases h1 : lsdbB 0 db <;> cases h2 : tabB t <;> cases h3 : nodeB me <;> simp_all)]
     rw [hM]
     simp_all [retOf]
     all_goals (intros; omega)
    ·skip
     refine dpG HT 3 rfl (pFb fd_55_1) ?_
     refine drG HT 4 rfl (rB1 ty_3) ?_
     refine dpG HT 5 rfl pM ?_
     refine dpG HT 6 rfl pB ?_
     refine dp HT 7 rfl pK ?_
     refine dp HT 8 rfl pM ?_
     refine dSplitDec 38 rfl (fun c38 => ?_) (fun c38 => ?_)
     ·skip
      refine dS HT 9 rfl ?_
      refine dS HT 10 rfl ?_
      refine dS HT 11 rfl ?_
      refine dGo ?_
      refine eS HT 12 rfl ?_
      refine eS HT 13 rfl ?_
      refine eS HT 14 rfl ?_
      refine ef HT 15 rfl pK ?_
      refine ePure (i := 16) #[true, true, true, true, true, true, true, true, true, true, true, true, true, true, true, true, true] rfl rfl rfl (HT.any (by kernel_rfl)) (by exact pMa) (by decide) ?_
      refine eE HT ?_
      clear HT
      refine aRet ?_
      refine finIs rfl ?_
      have hM : mustB db me t first = (!(getDb db me).2 || (decide ((getDb db me).1.s < first) || !decide ((getDb db me).1.ls = linksT t))) := by unfold mustB; rw [if_pos (by cases h1 : lsdbB 0 db <;> cases h2 : tabB t <;> cases h3 : nodeB me <;> simp_all)]
      rw [hM]
      simp_all [retOf]
      all_goals (intros; omega)
     ·skip
      refine dpG HT 9 rfl (pFb fd_55_2) ?_
      refine drG HT 10 rfl (rB1 ty_53) ?_
      refine dpG HT 11 rfl pM ?_
      refine dGo ?_
      refine e1G HT 12 rfl ?_
      refine ci rfl rfl rfl (table_Links (l := t) (by omega)) ?_
      refine e1G HT 13 rfl ?_
      refine cv rfl rfl rfl (lents_refl _) (equal_Link (a := (getDb db me).1.ls) (b := linksT t) (by omega) (by omega)) ?_
      refine efG HT 14 rfl pNo ?_
      refine ef HT 15 rfl pK ?_
      refine ePure (i := 16) #[true, true, true, true, true, true, true, true, true, true, true, true, true, true, true, true, true] rfl rfl rfl (HT.any (by kernel_rfl)) (by exact pMa) (by decide) ?_
      refine eE HT ?_
      clear HT
      refine aRet ?_
      refine finIs rfl ?_
      have hM : mustB db me t first = (!(getDb db me).2 || (decide ((getDb db me).1.s < first) || !decide ((getDb db me).1.ls = linksT t))) := by unfold mustB; rw [if_pos (by cases h1 : lsdbB 0 db <;> cases h2 : tabB t <;> cases h3 : nodeB me <;> simp_all)]
      rw [hM]
      simp_all [retOf]
      all_goals (intros; omega)
end A
end Go.Proofs.YthkgdhamnpiagaaGreat
namespace Go.Proofs.YthkgdhamnpiagaaGreat
namespace A
/- own.Make -/
set_option maxRecDepth 100000 in
set_option maxHeartbeats 2000000 in
theorem own_Make {me seq : Int} {t : List Nr} (ht : t.length ≤ 1000000) : Triple Tryz.prog 217 [.int me, .int seq, .sl 8 (t.map nrC)] [] (Is (.tup [.agg (lsaC (makeL me seq t).1), .int (makeL me seq t).2]) []) := by
 refine triple_ofR Tryz.func217 rfl (by kernel_rfl) rfl (by simp) ?_
 refine aSeq ?_
 refine aReg ?_
 refine sq ?_
 refine qAlloc rfl rfl (by decide) ze_55 rfl (fun b6 => ?_)
 refine sp pMa ?_
 refine oNil ?_
 refine aSeq ?_
 refine aSeq ?_
 refine aReg ?_
 refine sp pM ?_
 refine sq ?_
 refine ci rfl rfl rfl (table_Check (l := t) (by omega)) ?_
 refine sp pB ?_
 refine oNil ?_
 refine aCondNe rfl (fun c14 => ?_) (fun c14 => ?_)
 ·skip
  refine aSeq ?_
  refine aReg ?_
  refine sp (pBuild rfl st_55 ze_55 rfl rfl rfl rfl) ?_
  refine sa ?_
  refine oStW rfl rfl rfl rfl (by repeat constructor) ty_55 ?_
  refine sp pMa ?_
  refine oNil ?_
  have hM : makeL me seq t = (lsa0, 1) := by unfold makeL; rw [if_neg (by simp_all)]
  rw [hM]
  refine aRet ?_
  refine finRIs (l := [.agg (lsaC lsa0), .int 1]) (.cons (.cast (a := .agg [.int 0, .int 0, .v (.slice none 0 0)]) (.cellA rfl (by repeat (first | exact List.mem_cons_self | apply List.mem_cons_of_mem)) ty_55) cast_lsa0) (.cons (.tmp rfl) .nil)) rfl
 ·skip
  refine aSkip ?_
  refine aSeq ?_
  refine aSeq ?_
  have hv : tabB t = true := by cases hv : tabB t <;> simp_all
  refine aReg ?_
  refine sp pM ?_
  refine sp pM ?_
  refine sq ?_
  refine ci rfl rfl rfl (table_Find (l := t) (n := me) (by omega)) ?_
  refine sp pM ?_
  refine sp pX ?_
  refine sp pX ?_
  refine sq ?_
  refine qAlloc rfl rfl (by decide) ze_147 rfl (fun b8 => ?_)
  refine sa ?_
  refine oStW rfl rfl rfl rfl (by repeat constructor) ty_147 ?_
  refine sp pMa ?_
  refine oNil ?_
  refine aSeq ?_
  refine aReg ?_
  refine sp pM ?_
  refine oNil ?_
  refine aCond rfl (fun c22 => ?_) (fun c22 => ?_)
  ·skip
   refine aSeq ?_
   refine aReg ?_
   refine sp (pBuild rfl st_55 ze_55 rfl rfl rfl rfl) ?_
   refine sa ?_
   refine oStW rfl rfl rfl rfl (by repeat constructor) ty_55 ?_
   refine sp pMa ?_
   refine oNil ?_
   have hM : makeL me seq t = (lsa0, 1) := by unfold makeL; rw [if_neg (by simp_all)]
   rw [hM]
   refine aRet ?_
   refine finRIs (l := [.agg (lsaC lsa0), .int 1]) (.cons (.cast (a := .agg [.int 0, .int 0, .v (.slice none 0 0)]) (.cellA rfl (by repeat (first | exact List.mem_cons_self | apply List.mem_cons_of_mem)) ty_55) cast_lsa0) (.cons (.tmp rfl) .nil)) rfl
  ·skip
   refine aSkip ?_
   refine aSeq ?_
   refine aReg ?_
   refine sp pM ?_
   refine sp pM ?_
   refine sp pM ?_
   refine sq ?_
   refine ci rfl rfl rfl (table_Links (l := t) (by omega)) ?_
   refine sp (pBuild rfl st_55 ze_55 rfl rfl rfl rfl) ?_
   refine sq ?_
   refine qAlloc rfl rfl (by decide) ze_55 rfl (fun b10 => ?_)
   refine sa ?_
   refine oStW rfl rfl rfl rfl (by repeat constructor) ty_55 ?_
   refine oNil ?_
   refine aSeq ?_
   refine aSeq ?_
   refine aReg ?_
   refine sr (by first | exact rBWa ty_55 | exact rBW ty_55 | exact rBA ty_55) ?_
   refine sq ?_
   refine ci rfl rfl rfl (lsa_Check (l := lsaOf me seq t)) ?_
   refine sp pMa ?_
   refine oNil ?_
   refine aSeq ?_
   refine aReg ?_
   refine sp pM ?_
   refine sp pB ?_
   refine oNil ?_
   refine aCondNe rfl (fun c32 => ?_) (fun c32 => ?_)
   ·skip
    refine aSeq ?_
    refine aReg ?_
    refine sp (pBuild rfl st_55 ze_55 rfl rfl rfl rfl) ?_
    refine sp pM ?_
    refine sa ?_
    refine oStW rfl rfl rfl rfl (by repeat constructor) ty_55 ?_
    refine sp pMa ?_
    refine oNil ?_
    have hB : lsaB (lsaOf me seq t) = false := by cases hB : lsaB (lsaOf me seq t) <;> simp_all
    rw [hB]
    have hM : makeL me seq t = (lsa0, 1) := by unfold makeL; rw [if_neg (by rw [hB]; simp)]
    rw [hM]
    refine aRet ?_
    refine finRIs (l := [.agg (lsaC lsa0), .int 1]) (.cons (.cast (a := .agg [.int 0, .int 0, .v (.slice none 0 0)]) (.cellA rfl (by repeat (first | exact List.mem_cons_self | apply List.mem_cons_of_mem)) ty_55) cast_lsa0) (.cons (.tmp rfl) .nil)) rfl
   ·skip
    refine aSkip ?_
    refine aSeq ?_
    refine aReg ?_
    refine sr (by first | exact rBWa ty_55 | exact rBW ty_55 | exact rBA ty_55) ?_
    refine sa ?_
    refine oStW rfl rfl rfl rfl (by repeat constructor) ty_55 ?_
    refine sp pMa ?_
    refine oNil ?_
    have hB : lsaB (lsaOf me seq t) = true := by cases hB : lsaB (lsaOf me seq t) <;> simp_all
    have hM : makeL me seq t = (lsaOf me seq t, 0) := by unfold makeL; rw [if_pos ⟨hv, by simp_all, hB⟩]
    rw [hM]
    refine aRet ?_
    refine finRIs (l := [.agg (lsaC (lsaOf me seq t)), .int 0]) (.cons (.cellA (cs := lsaC (lsaOf me seq t)) rfl (by repeat (first | exact List.mem_cons_self | apply List.mem_cons_of_mem)) ty_55) (.cons (.tmp rfl) .nil)) rfl
end A
end Go.Proofs.YthkgdhamnpiagaaGreat
namespace Go.Proofs.YthkgdhamnpiagaaGreat
namespace A
def bareC (n : Int) : Chg := ⟨2, lsa0, n, 0⟩
def lsaCh (x : Lsa) : Chg := ⟨1, x, 0, 0⟩
/- own.Plan -/
def own_Plan_r17_T : Bool × List (List Nat × List Nat) := (true, [([], []), ([], []), ([1], [1]), ([2], [2]), ([0, 3], [0, 3]), ([], []), ([4, 4, 0, 1, 2, 3, 4], [4]), ([5, 6, 0, 1, 2, 3, 4, 5, 6], [5]), ([7, 0, 1, 2, 3, 4, 5, 6, 7], [])])
def own_Plan_r17_B : List Nat := [0, 0, 2, 6, 15, 0, 31, 127, 255]
theorem own_Plan_r17_t : Go.Proofs.YthkgdhamnpiagaaGreatW.PrintLast.rtab .any (Go.Proofs.YthkgdhamnpiagaaGreatW.PrintLast.opsOf Tryz.f123 17) = own_Plan_r17_T := by kernel_rfl
theorem own_Plan_r17_b : Go.Proofs.YthkgdhamnpiagaaGreatW.PrintLast.waitsOk own_Plan_r17_T.2 own_Plan_r17_B = true := by kernel_rfl
set_option maxRecDepth 100000 in
set_option maxHeartbeats 4000000 in
theorem own_Plan {db : List Lsa} {me : Int} {t : List Nr} {s : Spc} (hd : db.length ≤ 1000000) (ht : t.length ≤ 1000000) (hn : -9223372036854775807 ≤ s.next ∧ s.next ≤ 9223372036854775807) : Triple Tryz.prog 123 [.sl 3 (db.map lsaC), .int me, .sl 8 (t.map nrC), .agg (spC s)] [] (Is (.tup [.sl 6 ((planL db me t s).1.map chgC), .agg (spC (planL db me t s).2.1), .int (planL db me t s).2.2]) []) := by
 refine triple_ofR Tryz.func123 rfl (by kernel_rfl) rfl (by simp) ?_
 refine aSeq ?_
 refine aReg ?_
 refine sq ?_
 refine qBox rfl rfl (by decide) rfl rfl (fun b7 => ?_)
 refine sp pMa ?_
 refine sq ?_
 refine qAlloc rfl rfl (by decide) ze_40 rfl (fun b9 => ?_)
 refine sp pMa ?_
 refine oNil ?_
 refine aSeq ?_
 refine aReg ?_
 refine sr (by first | exact rBWa ty_40 | exact rBW ty_40 | exact rBA ty_40) ?_
 refine sq ?_
 refine ci rfl rfl rfl (space_Want hn) ?_
 refine sp pM ?_
 refine sp pX ?_
 refine sp pX ?_
 refine sp pMa ?_
 refine sp pMa ?_
 refine oNil ?_
 refine aSeq ?_
 refine aSeq ?_
 refine aReg ?_
 refine sp pM ?_
 refine sp pM ?_
 refine sq ?_
 refine ci rfl rfl rfl (own_Make (me := me) (seq := 1) (t := t) (by omega)) ?_
 refine sp pM ?_
 refine sp pX ?_
 refine sp pX ?_
 refine sq ?_
 refine qAlloc rfl rfl (by decide) ze_55 rfl (fun b13 => ?_)
 refine sa ?_
 refine oStW rfl rfl rfl rfl (by repeat constructor) ty_55 ?_
 refine sp pMa ?_
 refine oNil ?_
 refine aSeq ?_
 refine aReg ?_
 refine sp pM ?_
 refine sp pB ?_
 refine sp pM ?_
 refine oSplitNe 36 rfl (fun c36 => ?_) (fun c36 => ?_)
 ·skip
  refine gf ?_
  refine gf ?_
  refine gf ?_
  refine sp pK ?_
  refine sp pM ?_
  refine gf ?_
  refine gf ?_
  refine sp pK ?_
  refine oNil ?_
  refine aCondT rfl ?_
  refine aSeq ?_
  refine aReg ?_
  refine sp (pBuild rfl st_40 ze_40 rfl rfl rfl rfl) ?_
  refine sp pMa ?_
  refine sa ?_
  refine oStW rfl rfl rfl rfl (by repeat constructor) ty_40 ?_
  refine sp pMa ?_
  refine oNil ?_
  have hM : planL db me t s = ([], sp0, 1) := by
    unfold planL
    rw [if_pos (by cases h1 : lsdbB 0 db <;> simp_all)]
  rw [hM]
  refine aWeak (weak_cast (k := 8) (b := .sl 6 []) rfl cast_nil) ?_
  refine aRet ?_
  refine finRIs (l := [.sl 6 [], .agg (spC sp0), .int 1]) (.cons (.tmp rfl) (.cons (.cellA (cs := spC sp0) rfl (by repeat (first | exact List.mem_cons_self | apply List.mem_cons_of_mem)) ty_40) (.cons (.tmp rfl) .nil))) rfl
 ·skip
  refine gp pM ?_
  refine ga ?_
  refine (ci rfl rfl rfl (lsdb_Check (l := db) (by omega)) ?_).op
  refine gp pB ?_
  refine sp pK ?_
  refine sp pM ?_
  refine oSplitNe 41 rfl (fun c41 => ?_) (fun c41 => ?_)
  ·skip
   refine gf ?_
   refine gf ?_
   refine sp pK ?_
   refine oNil ?_
   refine aCondT rfl ?_
   refine aSeq ?_
   refine aReg ?_
   refine sp (pBuild rfl st_40 ze_40 rfl rfl rfl rfl) ?_
   refine sp pMa ?_
   refine sa ?_
   refine oStW rfl rfl rfl rfl (by repeat constructor) ty_40 ?_
   refine sp pMa ?_
   refine oNil ?_
   have hM : planL db me t s = ([], sp0, 1) := by
     unfold planL
     rw [if_pos (by cases h1 : lsdbB 0 db <;> simp_all)]
   rw [hM]
   refine aWeak (weak_cast (k := 8) (b := .sl 6 []) rfl cast_nil) ?_
   refine aRet ?_
   refine finRIs (l := [.sl 6 [], .agg (spC sp0), .int 1]) (.cons (.tmp rfl) (.cons (.cellA (cs := spC sp0) rfl (by repeat (first | exact List.mem_cons_self | apply List.mem_cons_of_mem)) ty_40) (.cons (.tmp rfl) .nil))) rfl
  ·skip
   refine gp pM ?_
   refine gp pB ?_
   refine sp pK ?_
   refine oNil ?_
   refine aCondEq rfl (fun c44 => ?_) (fun c44 => ?_)
   ·skip
    refine aSeq ?_
    refine aReg ?_
    refine sp (pBuild rfl st_40 ze_40 rfl rfl rfl rfl) ?_
    refine sp pMa ?_
    refine sa ?_
    refine oStW rfl rfl rfl rfl (by repeat constructor) ty_40 ?_
    refine sp pMa ?_
    refine oNil ?_
    have hM : planL db me t s = ([], sp0, 1) := by
      unfold planL
      rw [if_pos (by cases h1 : lsdbB 0 db <;> simp_all)]
    rw [hM]
    refine aWeak (weak_cast (k := 8) (b := .sl 6 []) rfl cast_nil) ?_
    refine aRet ?_
    refine finRIs (l := [.sl 6 [], .agg (spC sp0), .int 1]) (.cons (.tmp rfl) (.cons (.cellA (cs := spC sp0) rfl (by repeat (first | exact List.mem_cons_self | apply List.mem_cons_of_mem)) ty_40) (.cons (.tmp rfl) .nil))) rfl
   ·skip
    refine aSkip ?_
    refine aSeq ?_
    have hM1 : (makeL me 1 t).2 = 0 ∧ lsdbB 0 db = true ∧ (wantS s).2 ≠ 1 := by cases h1 : lsdbB 0 db <;> simp_all
    refine aWeak (h' := .sl none 0 104 6 (([] : List Chg).map chgC) :: _) (weak_nil 104 6) ?_
    refine aReg ?_
    refine sp pMa ?_
    refine oNil ?_
    refine aSeq ?_
    refine aReg ?_
    refine sr (by first | exact rBWa ty_40 | exact rBW ty_40 | exact rBA ty_40) ?_
    refine sq ?_
    refine ci rfl rfl rfl (space_Take hn) ?_
    refine sp pM ?_
    refine sp pX ?_
    refine sp pX ?_
    refine sp pX ?_
    refine sq ?_
    refine qAlloc rfl rfl (by decide) ze_40 rfl (fun b17 => ?_)
    refine sp pMa ?_
    refine sa ?_
    refine oStW rfl rfl rfl rfl (by repeat constructor) ty_40 ?_
    refine sp pMa ?_
    refine oNil ?_
    refine cutF (α := List Chg × Spc × Spc × Int × Option Nat × Nat) (kept := [(0, _), (1, _), (2, _), (9, _), (17, _)]) (H0 := [.sl none 0 104 6 (([] : List Chg).map chgC), .box b7 _, .box b17 _]) (fun (cl, s2, af, n, g, c) => cl = (if (takeS s).2.2 = 0 then [] else [bareC (wantS s).1]) ∧ af = (takeS (planS s)).2.1 ∧ n = (takeS (planS s)).1 ∧ ¬ ((takeS s).2.2 ≠ 0 ∧ (wantS s).2 ≠ 0)) (fun (cl, s2, af, n, g, c) => [(15, .v (slV g cl.length c)), (16, .int n)]) (fun (cl, s2, af, n, g, c) => [.sl g c 104 6 (cl.map chgC), .box b7 (spC s2), .box b17 (spC af)]) ⟨rfl, rfl, rfl, rfl, rfl, trivial⟩ (by repeat constructor) ?_ ?_
    ·skip
     refine aSeq ?_
     refine aReg ?_
     refine sp pM ?_
     refine sp pB ?_
     refine oNil ?_
     refine aCondNe rfl (fun c53 => ?_) (fun c53 => ?_)
     ·skip
      refine aSeq ?_
      refine aSeq ?_
      refine aReg ?_
      refine sp pM ?_
      refine sp pB ?_
      refine oNil ?_
      refine aCondNe rfl (fun c55 => ?_) (fun c55 => ?_)
      ·skip
       refine aSeq ?_
       refine aReg ?_
       refine sp (pBuild rfl st_40 ze_40 rfl rfl rfl rfl) ?_
       refine sp pM ?_
       refine sp pMa ?_
       refine sa ?_
       refine oStW rfl rfl rfl rfl (by repeat constructor) ty_40 ?_
       refine sp pMa ?_
       refine oNil ?_
       have hM : planL db me t s = ([], sp0, (wantS s).2) := by
         unfold planL
         rw [if_neg (by simp_all), if_pos (by simp_all)]
       rw [hM]
       refine aWeak (weak_cast (k := 8) (b := .sl 6 []) rfl cast_nil) ?_
       refine aRet ?_
       refine finRIs (l := [.sl 6 [], .agg (spC sp0), .int (wantS s).2]) (.cons (.tmp rfl) (.cons (.cellA (cs := spC sp0) rfl (by repeat (first | exact List.mem_cons_self | apply List.mem_cons_of_mem)) ty_40) (.cons (.tmp rfl) .nil))) rfl
      ·skip
       refine aSkip ?_
       refine aSeq ?_
       have hW : (wantS s).2 = 0 := by simp_all
       have hn2 : -9223372036854775807 ≤ (grantS s (wantS s).1).1.next ∧ (grantS s (wantS s).1).1.next ≤ 9223372036854775807 := by
         unfold grantS
         split
         ·exact ⟨by decide, by decide⟩
         ·exact hn
       refine aReg ?_
       refine sp pM ?_
       refine sp pM ?_
       refine sp (pBuild rfl st_104 ze_104 rfl rfl rfl rfl) ?_
       refine sq ?_
       refine qLit (l := [_]) rfl rfl (by decide) us_105 ty_104 ze_104 rfl (by decide) (by decide) rfl rfl rfl (fun b61 => ?_)
       refine oWeak (weak_cast1 (y' := chgC (bareC (wantS s).1)) .hd rfl (.cons .refl (.cons .refl (.cons .refl (.cons cast_nil (.cons .refl (.cons .refl .nil))))))) ?_
       refine sa ?_
       refine oAppT ([bareC (wantS s).1] : List Chg) rfl rfl (by repeat constructor) (srcOwn rfl (by repeat constructor) rfl) el_105 sl_105 (fun g62 k62 => ?_) (hb := by simp)
       refine sp pMa ?_
       refine oNil ?_
       refine aSeq ?_
       refine aReg ?_
       refine sr (by first | exact rBWa ty_40 | exact rBW ty_40 | exact rBA ty_40) ?_
       refine sp pM ?_
       refine sq ?_
       refine ci rfl rfl rfl (space_Grant (n := (wantS s).1) hn) ?_
       refine sp pM ?_
       refine sp pX ?_
       refine sp pX ?_
       refine sa ?_
       refine oStB rfl rfl rfl rfl (by repeat constructor) ty_40 rfl (Nat.le_of_ble_eq_true rfl) rfl ?_
       refine oNil ?_
       refine aReg ?_
       refine sr (by first | exact rBWa ty_40 | exact rBW ty_40 | exact rBA ty_40) ?_
       refine sq ?_
       refine ci rfl rfl rfl (space_Take (s := (grantS s (wantS s).1).1) hn2) ?_
       refine sp pM ?_
       refine sp pX ?_
       refine sp pX ?_
       refine sp pX ?_
       refine sp pMa ?_
       refine sa ?_
       refine oStW rfl rfl rfl rfl (by repeat constructor) ty_40 ?_
       refine oNil ?_
       refine ⟨(_, _, _, _, _, _), ?_, ⟨gLen rfl (by first | rfl | simp | (simp; omega)), gInt rfl (by first | rfl | omega | simp), rfl, rfl, rfl, rfl, rfl, trivial⟩, _, (by repeat constructor)⟩
       first
         | (have hz : (takeS s).2.2 ≠ 0 := by assumption
            exact ⟨by first | (rw [if_neg hz]; done) | (rw [if_neg hz]; rfl), by unfold planS; rw [if_neg hz], by unfold planS; rw [if_neg hz], by simp_all⟩)
         | (have hz : (takeS s).2.2 = 0 := by simp_all
            exact ⟨by first | (rw [if_pos hz]; done) | (rw [if_pos hz]; rfl), by unfold planS; rw [if_pos hz], by unfold planS; rw [if_pos hz], by simp_all⟩)
     ·skip
      refine aSkip ?_
      refine ⟨(_, _, _, _, _, _), ?_, ⟨gLen rfl (by first | rfl | simp | (simp; omega)), gInt rfl (by first | rfl | omega | simp), rfl, rfl, rfl, rfl, rfl, trivial⟩, _, (by repeat constructor)⟩
      first
        | (have hz : (takeS s).2.2 ≠ 0 := by assumption
           exact ⟨by first | (rw [if_neg hz]; done) | (rw [if_neg hz]; rfl), by unfold planS; rw [if_neg hz], by unfold planS; rw [if_neg hz], by simp_all⟩)
        | (have hz : (takeS s).2.2 = 0 := by simp_all
           exact ⟨by first | (rw [if_pos hz]; done) | (rw [if_pos hz]; rfl), by unfold planS; rw [if_pos hz], by unfold planS; rw [if_pos hz], by simp_all⟩)
    ·rintro ⟨cl, s2, af, n, g, c⟩ ⟨hcl, haf, hnn, hno⟩
     refine aSeq ?_
     refine aReg ?_
     refine sp pM ?_
     refine sp pM ?_
     refine sp pM ?_
     refine sq ?_
     refine ci rfl rfl rfl (own_Make (me := me) (seq := n) (t := t) (by omega)) ?_
     refine sp pM ?_
     refine sp pX ?_
     refine sp pX ?_
     refine sq ?_
     refine qAlloc rfl rfl (by decide) ze_55 rfl (fun b19 => ?_)
     refine sa ?_
     refine oStW rfl rfl rfl rfl (by repeat constructor) ty_55 ?_
     refine sp pMa ?_
     refine oNil ?_
     refine aSeq ?_
     refine aSeq ?_
     refine aReg ?_
     refine sp pM ?_
     refine sr (by first | exact rBWa ty_55 | exact rBW ty_55 | exact rBA ty_55) ?_
     refine sq ?_
     refine ci rfl rfl rfl (lsdb_Put (l := db) (x := (makeL me n t).1) (by omega)) ?_
     refine sp pM ?_
     refine sp pX ?_
     refine sp pX ?_
     refine sp pMa ?_
     refine sp pMa ?_
     refine oNil ?_
     refine aSeq ?_
     refine aReg ?_
     refine sp pM ?_
     refine sp pB ?_
     refine oNil ?_
     refine aCondNe rfl (fun c89 => ?_) (fun c89 => ?_)
     ·skip
      refine aSeq ?_
      refine aReg ?_
      refine sp (pBuild rfl st_40 ze_40 rfl rfl rfl rfl) ?_
      refine sp pMa ?_
      refine sa ?_
      refine oStW rfl rfl rfl rfl (by repeat constructor) ty_40 ?_
      refine sp pMa ?_
      refine oNil ?_
      have hM : planL db me t s = ([], sp0, 1) := by
        unfold planL
        rw [if_neg (by simp_all), if_neg hno, ← hnn, if_pos (by simp_all)]
      rw [hM]
      refine aWeak (weak_cast (k := 8) (b := .sl 6 []) rfl cast_nil) ?_
      refine aRet ?_
      refine finRIs (l := [.sl 6 [], .agg (spC sp0), .int 1]) (.cons (.tmp rfl) (.cons (.cellA (cs := spC sp0) rfl (by repeat (first | exact List.mem_cons_self | apply List.mem_cons_of_mem)) ty_40) (.cons (.tmp rfl) .nil))) rfl
     ·skip
      refine aSkip ?_
      refine aSeq ?_
      have hcll : cl.length ≤ 1 := by rw [hcl]; split <;> simp
      refine aDrawS (h1 := [.box b19 _, .box b17 _]) own_Plan_r17_t own_Plan_r17_b [] 9 #[false, false, false, false, false, false, false, false, false] (by kernel_rfl) rfl rfl (.cons (by repeat constructor) (.cons (by repeat constructor) .nil)) (fun HT => ?_)
      refine ep HT 0 rfl pM ?_
      refine er HT 1 rfl (by first | exact rBWa ty_55 | exact rBW ty_55 | exact rBA ty_55) ?_
      refine ep HT 2 rfl (pBuild rfl st_104 ze_104 rfl rfl rfl rfl) ?_
      refine er HT 5 rfl (by first | exact rBWa ty_40 | exact rBW ty_40 | exact rBA ty_40) ?_
      refine e1 HT 3 rfl ?_
      refine qLit (l := [_]) rfl rfl (by decide) us_105 ty_104 ze_104 rfl (by decide) (by decide) rfl rfl rfl (fun b94 => ?_)
      refine eOneS (i := 4) #[true, true, true, true, true, true, false, false, false] rfl (HT.one (by kernel_rfl)) (by decide) ?_
      ·skip
       refine stA (hx := [.sl g c _ _ _, .sl (some b94) _ _ _ _]) (wantN rfl) (fun t ht => by cases ht <;> decide) (.cons (by repeat constructor) (.cons (by repeat constructor) .nil)) (by repeat constructor) ?_
       refine oAppT ([lsaCh (makeL me n t).1] : List Chg) rfl rfl (by repeat constructor) (srcOwn rfl (by repeat constructor) rfl) el_105 sl_105 (fun g95 k95 => ?_)
       refine undel (d := 95) rfl ?_
       try dsimp only [List.cons_append, List.nil_append]
       refine ePure (i := 6) #[true, true, true, true, true, true, true, false, false] rfl rfl rfl (HT.any (by kernel_rfl)) (by exact pMa) (by decide) ?_
       refine eOneS (i := 7) #[true, true, true, true, true, true, true, true, false] rfl (HT.one (by kernel_rfl)) (by decide) ?_
       ·skip
        refine stA (hx := [.box b9 _]) (wantN rfl) (fun t ht => by cases ht <;> decide) (.cons (by repeat constructor) .nil) (by repeat constructor) ?_
        refine oStW rfl rfl rfl rfl (by repeat constructor) ty_40 ?_
        try dsimp only [List.cons_append, List.nil_append]
        refine ep HT 8 rfl pMa ?_
        refine eE HT ?_
        clear HT
        have hM : planL db me t s = (cl ++ [lsaCh (makeL me n t).1], af, 0) := by
          unfold planL
          rw [if_neg (by simp_all), if_neg hno, ← hnn, if_neg (by simp_all), haf, hcl]
          rfl
        rw [hM]
        refine aWeak (weak_settle (k := 8) rfl (by repeat constructor) (by simp)) ?_
        refine aRet ?_
        refine finRIs (l := [.sl 6 ((cl ++ [lsaCh (makeL me n t).1]).map chgC), .agg (spC af), .int 0]) (.cons (.tmp rfl) (.cons (.cellA (cs := spC af) rfl (by repeat (first | exact List.mem_cons_self | apply List.mem_cons_of_mem)) ty_40) (.cons (.tmp rfl) .nil))) rfl
end A
end Go.Proofs.YthkgdhamnpiagaaGreat
