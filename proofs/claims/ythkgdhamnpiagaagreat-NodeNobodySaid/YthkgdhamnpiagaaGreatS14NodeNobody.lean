/- Texts that NodeNobody's proof rests on, part 15. -/
import Derived.KernelRfl
import Derived.Test.YthkgdhamnpiagaaGreatProg
import Derived.Test.YthkgdhamnpiagaaGreatS13NodeNobody
set_option linter.unusedVariables false
set_option linter.unusedSimpArgs false
namespace Go.Proofs.YthkgdhamnpiagaaGreat
namespace A
theorem st_279 : structPlaces Tryz.prog 279 = some [(0, 1), (1, 3), (4, 1), (5, 1), (6, 1), (7, 1)] := by kernel_rfl
theorem ze_279 : zeroOf Tryz.prog 279 = some (.agg #[.pointer none, .int .i64 0, .int .i64 0, .int .i64 0, .int .i64 0, .int .i64 0, .int .i64 0, .bool false]) := by kernel_rfl
theorem plotOk {n : Nat} (h : plotE n = 0) : PltOk (plotM n) n := by
 unfold plotE at h
 split at h
 ·cases h
 ·exact ⟨rfl, by omega, by omega⟩
theorem Rel.get_len {n : Nat} {S W : List (Int × BS)} {D : DW} (r : Rel n S W D) {i : Nat} (h : i < n) : (D.get i).length = 512 := by
 have h1 := r.sg i h
 have h2 := r.wg i h
 unfold DW.get
 rw [List.getD_eq_getElem?_getD, List.getD_eq_getElem?_getD, h1, h2]
 simp only [Option.getD_some]
 cases hw : bGet W i with
 | some b =>
   have := (r.wr _ _ hw).2.2
   simp only [Option.getD_some]
   rw [if_pos (by omega)]
   exact this
 | none =>
   simp only [Option.getD_none, List.length_nil, Nat.lt_irrefl, if_false]
   cases hs : bGet S i with
   | some b => exact (r.sr _ _ hs).2.2
   | none => exact List.length_replicate
theorem Rel.secL_len {n : Nat} {S W : List (Int × BS)} {D : DW} (r : Rel n S W D) {s : BS} (h : s ∈ secL D n) : s.length = 512 := by
 unfold secL at h
 obtain ⟨i, hi, rfl⟩ := List.mem_map.1 h
 exact r.get_len (List.mem_range.1 hi)
theorem recsL_eq {l : List Pg} {n : Nat} (h : l.length ≤ n) : recsL l = recsG (n + 1) l := recsG_fix l.length (Nat.le_refl _) (by omega) (by omega)
def OPost (db bs bw n : Nat) (O : Opn) : AV → List HA → Prop := fun q h' => ∃ v S' W', Rel n S' W' O.d ∧ q = .tup [.v v, bsA O.b, .sl 1 (O.recs.map rowC), .int O.e] ∧ ((O.e = 0 ∧ ∃ wb, v = .pointer (some ⟨wb, 0, none⟩) ∧ h' = .box wb (wsC db O.w) :: [.box db [.int n, .v (.map (some bs)), .v (.map (some bw)), .int O.d.armed, .v (.bool O.d.dead)], .map bs (kvA S'), .map bw (kvA W')]) ∨ (O.e ≠ 0 ∧ v = .pointer none ∧ h' = [.box db [.int n, .v (.map (some bs)), .v (.map (some bw)), .int O.d.armed, .v (.bool O.d.dead)], .map bs (kvA S'), .map bw (kvA W')]))
theorem wal_TurnNil {wb db bs bw n : Nat} {V : WS} {S W : List (Int × BS)} {D : DW} (r : Rel n S W D) (o : WOk V n) : Triple Tryz.prog 159 [.v (.pointer (some ⟨wb, 0, none⟩)), .v (.slice none 0 0)] (HA.box wb (wsC db V) :: [.box db [.int n, .v (.map (some bs)), .v (.map (some bw)), .int D.armed, .v (.bool D.dead)], .map bs (kvA S), .map bw (kvA W)]) (fun q h' => q = .int (V.turn D []).2.2 ∧ ∃ S' W', Rel n S' W' (V.turn D []).2.1 ∧ h' = HA.box wb (wsC db (V.turn D []).1) :: [.box db [.int n, .v (.map (some bs)), .v (.map (some bw)), .int (V.turn D []).2.1.armed, .v (.bool (V.turn D []).2.1.dead)], .map bs (kvA S'), .map bw (kvA W')]) :=
 (wal_Turn (b := []) r o (by decide) (fun x hx => by simp at hx)).casts (.cons .refl (.cons cast_nil .nil))
/- wal.Open -/
def wal_Open_r7_T : Bool × List (List Nat × List Nat) := (true, [([], []), ([], []), ([], []), ([2], [2]), ([3], [3]), ([0, 1, 4], [0, 1, 4]), ([5], [5]), ([6, 3, 0, 1, 2, 3, 4, 5, 6], [6])])
def wal_Open_r7_B : List Nat := [0, 0, 0, 4, 12, 31, 63, 127]
theorem wal_Open_r7_t : Go.Proofs.YthkgdhamnpiagaaGreatW.PrintLast.rtab .any (Go.Proofs.YthkgdhamnpiagaaGreatW.PrintLast.opsOf Tryz.f72 7) = wal_Open_r7_T := by kernel_rfl
theorem wal_Open_r7_b : Go.Proofs.YthkgdhamnpiagaaGreatW.PrintLast.waitsOk wal_Open_r7_T.2 wal_Open_r7_B = true := by kernel_rfl
def wal_Open_r10_T : Bool × List (List Nat × List Nat) := (true, [([], []), ([], []), ([0, 1], [0, 1]), ([], []), ([], []), ([3, 4, 2], [3, 4]), ([2, 5, 5], [2, 5]), ([6], [6]), ([7], [7]), ([7], [7]), ([], []), ([10, 8, 6, 0, 1, 2, 3, 4, 5, 6, 7, 8, 10], [8, 10]), ([9, 11, 0, 1, 2, 3, 4, 5, 6, 7, 8, 9, 10, 11], [9])])
def wal_Open_r10_B : List Nat := [0, 0, 3, 0, 0, 31, 63, 127, 255, 255, 0, 1535, 4095]
theorem wal_Open_r10_t : Go.Proofs.YthkgdhamnpiagaaGreatW.PrintLast.rtab .any (Go.Proofs.YthkgdhamnpiagaaGreatW.PrintLast.opsOf Tryz.f72 10) = wal_Open_r10_T := by kernel_rfl
theorem wal_Open_r10_b : Go.Proofs.YthkgdhamnpiagaaGreatW.PrintLast.waitsOk wal_Open_r10_T.2 wal_Open_r10_B = true := by kernel_rfl
def wal_Open_r20_T : Bool × List (List Nat × List Nat) := (true, [([], []), ([], []), ([1], [1]), ([], []), ([0, 0], [0]), ([2, 4, 0, 1, 2, 4], [2]), ([3, 5, 0, 1, 2, 3, 4, 5], [3]), ([6, 0, 1, 2, 3, 4, 5, 6], [])])
def wal_Open_r20_B : List Nat := [0, 0, 2, 0, 1, 23, 63, 127]
theorem wal_Open_r20_t : Go.Proofs.YthkgdhamnpiagaaGreatW.PrintLast.rtab .any (Go.Proofs.YthkgdhamnpiagaaGreatW.PrintLast.opsOf Tryz.f72 20) = wal_Open_r20_T := by kernel_rfl
theorem wal_Open_r20_b : Go.Proofs.YthkgdhamnpiagaaGreatW.PrintLast.waitsOk wal_Open_r20_T.2 wal_Open_r20_B = true := by kernel_rfl
set_option maxRecDepth 100000 in
set_option maxHeartbeats 4000000 in
theorem wal_Open {db bs bw n : Nat} {S W : List (Int × BS)} {D : DW} (r : Rel n S W D) (hk : ∀ s ∈ secL D n, BOk s) : Triple Tryz.prog 72 [.v (.pointer (some ⟨db, 0, none⟩))] [.box db [.int n, .v (.map (some bs)), .v (.map (some bw)), .int D.armed, .v (.bool D.dead)], .map bs (kvA S), .map bw (kvA W)] (OPost db bs bw n (walOpen D n)) := by
 have hn1 := r.n1
 have hn2 := r.n2
 have hsl := secL_len D n
 have hsb : ∀ s ∈ (secL D n), s.length ≤ 900000 := fun s hs => by have := r.secL_len hs; omega
 have hmr := markL_rng (secL D n)
 refine triple_of Tryz.func72 rfl (by kernel_rfl) rfl (by simp) ?_
 refine aSeq ?_
 refine aReg ?_
 refine sp pMa ?_
 refine sp pMa ?_
 refine sp pMa ?_
 refine sp pMa ?_
 refine oNil ?_
 refine aSeq ?_
 refine aReg ?_
 refine sp pM ?_
 refine sa ?_
 refine aCall rfl rfl (by decide) rfl rfl (.cons (by repeat constructor) .nil) (disk_Size _ _ _ _ _ _) ?_
 rintro _ _ ⟨rfl, rfl⟩
 refine sq ?_
 refine ci rfl rfl rfl (plot_Make (n := n)) ?_
 refine sp pM ?_
 refine sp pX ?_
 refine sp pX ?_
 refine sq ?_
 refine qAlloc rfl rfl (by decide) ze_272 rfl (fun b6 => ?_)
 refine sa ?_
 refine oStW rfl rfl rfl rfl (by repeat constructor) ty_272 ?_
 refine sp pMa ?_
 refine oNil ?_
 refine aSeq ?_
 refine aSeq ?_
 refine aReg ?_
 refine sp pM ?_
 refine sp (by first | exact pPtrNil rfl (.inl rfl) rfl pt_25 rfl rfl | exact pSpNil rfl (.inl rfl) rfl pt_25 rfl) ?_
 refine sp pM ?_
 refine gp pM ?_
 refine gp pB ?_
 refine sp pK ?_
 refine oNil ?_
 refine aCondNe rfl (fun c26 => ?_) (fun c26 => ?_)
 ·skip
  refine aSeq ?_
  refine aReg ?_
  refine sp pMa ?_
  refine sp pMa ?_
  refine sp pMa ?_
  refine sp pMa ?_
  refine oNil ?_
  have hE : plotE n ≠ 0 := by simp_all
  have hO : walOpen D n = ⟨wal0, D, [], [], 1⟩ := by
    unfold walOpen
    rw [if_pos hE]
  refine aWeak (weak_cast (k := 3) (b := .sl 1 []) rfl cast_nil) ?_
  refine aWeak (weak_cast (k := 4) (b := .sl 1 []) rfl cast_nil) ?_
  refine aRet ?_
  rw [hO]
  exact ⟨_, [_, _, _], _, rfl, (.cons (by repeat constructor) (.cons (by repeat constructor) (.cons (by repeat constructor) .nil))), .pointer none, S, W, r, rfl, .inr ⟨by show (1 : Int) ≠ 0; decide, rfl, rfl⟩⟩
 ·skip
  refine aSkip ?_
  refine aSeq ?_
  have hE : plotE n = 0 := by simp_all
  have hp := plotOk hE
  rw [if_pos hE]
  refine aReg ?_
  refine sp pM ?_
  refine sa ?_
  refine cai rfl rfl rfl (wal_sectors db bs bw n S W D r) ?_
  refine sp pM ?_
  refine sp pX ?_
  refine sp pX ?_
  refine sp pMa ?_
  refine sp pMa ?_
  refine oNil ?_
  refine aSeq ?_
  refine aSeq ?_
  refine aReg ?_
  refine sp pM ?_
  refine sp pB ?_
  refine oNil ?_
  refine aCondNe rfl (fun c33 => ?_) (fun c33 => ?_)
  ·skip
   refine aSeq ?_
   refine aReg ?_
   refine sp pM ?_
   refine sp pMa ?_
   refine sp pMa ?_
   refine sp pMa ?_
   refine sp pMa ?_
   refine oNil ?_
   have hd : D.dead = true := by
     cases hd : D.dead with
     | true => rfl
     | false => simp_all [secE]
   have hS : secE D = 7 := by unfold secE; rw [hd]; rfl
   have hO : walOpen D n = ⟨wal0, D, [], [], 7⟩ := by
     unfold walOpen
     rw [if_neg (not_not_intro hE), if_pos hd]
   refine aWeak (weak_cast (k := 3) (b := .sl 1 []) rfl cast_nil) ?_
   refine aWeak (weak_cast (k := 4) (b := .sl 1 []) rfl cast_nil) ?_
   refine aRet ?_
   rw [hO]
   rw [hS]
   exact ⟨_, [_, _, _], _, rfl, (.cons (by repeat constructor) (.cons (by repeat constructor) (.cons (by repeat constructor) .nil))), .pointer none, S, W, r, rfl, .inr ⟨by show (7 : Int) ≠ 0; decide, rfl, rfl⟩⟩
  ·skip
   refine aSkip ?_
   refine aSeq ?_
   have hd : D.dead = false := by
     cases hd : D.dead with
     | true => simp_all [secE]
     | false => rfl
   rw [show secV D n = secL D n by unfold secV; rw [hd]; rfl]
   refine aDrawT wal_Open_r7_t wal_Open_r7_b [] 8 #[false, false, false, false, false, false, false, false] (by kernel_rfl) rfl rfl (fun HT => ?_)
   refine dp HT 0 rfl pM ?_
   refine dr HT 1 rfl (by first | exact rBWa ty_272 | exact rBW ty_272 | exact rBA ty_272) ?_
   refine dp HT 2 rfl pM ?_
   refine dGo ?_
   refine e1 HT 3 rfl ?_
   refine ci rfl rfl rfl (slot_Mark (l := (secL D n)) (by omega) hsb hk) ?_
   refine ef HT 4 rfl pAd ?_
   refine ef HT 5 rfl (pBuild rfl st_279 ze_279 rfl rfl rfl rfl) ?_
   refine e1 HT 6 rfl ?_
   refine qBox rfl rfl (by decide) rfl rfl (fun b41 => ?_)
   refine ef HT 7 rfl pMa ?_
   refine eE HT ?_
   clear HT
   refine aSeq ?_
   refine aSeq ?_
   refine aReg ?_
   refine sp pM ?_
   refine sp pNv ?_
   refine sp (pFb fd_279_3) ?_
   refine sr (rB1 ty_3) ?_
   refine sp pB ?_
   refine oNil ?_
   refine aCondDec rfl (fun c46 => ?_) (fun c46 => ?_)
   ·skip
    refine aSeq ?_
    refine aReg ?_
    refine sp pMa ?_
    refine sp pMa ?_
    refine sp pMa ?_
    refine sp pMa ?_
    refine oNil ?_
    have hO : walOpen D n = ⟨wal0, D, [], [], 4⟩ := by
      unfold walOpen
      rw [if_neg (not_not_intro hE), if_neg (by rw [hd]; decide)]
      simp only
      rw [if_pos (by unfold mmark; first | (simp_all; done) | (simp_all; omega))]
    refine aWeak (weak_cast (k := 3) (b := .sl 1 []) rfl cast_nil) ?_
    refine aWeak (weak_cast (k := 4) (b := .sl 1 []) rfl cast_nil) ?_
    refine aRet ?_
    rw [hO]
    exact ⟨_, [_, _, _], _, rfl, (.cons (by repeat constructor) (.cons (by repeat constructor) (.cons (by repeat constructor) .nil))), .pointer none, S, W, r, rfl, .inr ⟨by show (4 : Int) ≠ 0; decide, rfl, rfl⟩⟩
   ·skip
    refine aSkip ?_
    refine aSeq ?_
    have hm : ¬ mmark < markL (secL D n) + 1 := by unfold mmark; first | (simp_all; done) | (simp_all; omega)
    refine aDrawT wal_Open_r10_t wal_Open_r10_b [11] 13 #[false, false, false, false, false, false, false, false, false, false, false, false, false] (by kernel_rfl) rfl rfl (fun HT => ?_)
    refine dr HT 0 rfl (by first | exact rBWa ty_272 | exact rBW ty_272 | exact rBA ty_272) ?_
    refine dp HT 1 rfl pM ?_
    refine dr HT 3 rfl (by first | exact rBWa ty_272 | exact rBW ty_272 | exact rBA ty_272) ?_
    refine dp HT 4 rfl pM ?_
    refine dGo ?_
    refine eTwoS (i := 2) (j := 10) #[true, true, true, true, true, false, false, false, false, false, false, false, false] #[true, true, false, true, true, false, false, false, false, false, true, false, false] rfl rfl (HT.two (by kernel_rfl)) (by decide) (by decide) ?_ ?_
    ·skip
     refine stQ (wantN rfl) (fun t ht => by cases ht <;> decide) ?_
     refine ci rfl rfl rfl (wal_part (l := (secL D n)) (g := 0) (by rw [secL_len]; exact hp) (by decide)) ?_
     refine undel (d := 50) rfl ?_
     refine eTwoS (i := 5) (j := 10) #[true, true, true, true, true, true, false, false, false, false, false, false, false] #[true, true, true, true, true, false, false, false, false, false, true, false, false] rfl rfl (HT.two (by kernel_rfl)) (by decide) (by decide) ?_ ?_
     ·skip
      refine stQ (wantN rfl) (fun t ht => by cases ht <;> decide) ?_
      refine ci rfl rfl rfl (wal_part (l := (secL D n)) (g := 1) (by rw [secL_len]; exact hp) (by decide)) ?_
      refine undel (d := 53) rfl ?_
      refine eTwoS (i := 6) (j := 10) #[true, true, true, true, true, true, true, false, false, false, false, false, false] #[true, true, true, true, true, true, false, false, false, false, true, false, false] rfl rfl (HT.two (by kernel_rfl)) (by decide) (by decide) ?_ ?_
      ·skip
       refine stQ (wantN rfl) (fun t ht => by cases ht <;> decide) ?_
       refine ci rfl rfl rfl (slot_Better (l := partL (plotM n) (secL D n) 0) (l2 := partL (plotM n) (secL D n) 1) (by have := partL_len (plotM n) (secL D n) 0; omega) (fun s hs => hsb s (partL_mem hs)) (fun s hs => hk s (partL_mem hs)) (by have := partL_len (plotM n) (secL D n) 1; omega) (fun s hs => hsb s (partL_mem hs)) (fun s hs => hk s (partL_mem hs))) ?_
       refine undel (d := 54) rfl ?_
       refine ef HT 7 rfl pM ?_
       refine ef HT 8 rfl pX ?_
       refine ef HT 9 rfl pX ?_
       refine e1 HT 10 rfl ?_
       refine qAlloc rfl rfl (by decide) ze_281 rfl (fun b10 => ?_)
       refine eLast ?_
       refine f1 HT 11 rfl ?_
       refine oStW rfl rfl rfl rfl (by repeat constructor) ty_281 ?_
       refine fp HT 12 rfl pMa ?_
       refine fE HT ?_
       clear HT
       refine aSeq ?_
       refine aSeq ?_
       refine aReg ?_
       refine sp pM ?_
       refine sp pNo ?_
       refine oNil ?_
       refine aCondNot rfl (fun c58 => ?_) (fun c58 => ?_)
       ·skip
        refine aSeq ?_
        refine aSeq ?_
        have hB : betterL (partL (plotM n) (secL D n) 0) (partL (plotM n) (secL D n) 1) = none := by
          cases hB : betterL (partL (plotM n) (secL D n) 0) (partL (plotM n) (secL D n) 1) with
          | none => rfl
          | some x => simp_all
        refine aReg ?_
        refine sr (by first | exact rBWa ty_272 | exact rBW ty_272 | exact rBA ty_272) ?_
        refine sp pM ?_
        refine sq ?_
        refine ci rfl rfl rfl (wal_fresh (l := (secL D n)) (by rw [secL_len]; exact hp) hsb) ?_
        refine sp pNo ?_
        refine oNil ?_
        refine aCondNot rfl (fun c62 => ?_) (fun c62 => ?_)
        ·skip
         refine aSeq ?_
         refine aReg ?_
         refine sp pMa ?_
         refine sp pMa ?_
         refine sp pMa ?_
         refine sp pMa ?_
         refine oNil ?_
         have hO : walOpen D n = ⟨wal0, D, [], [], 8⟩ := by
           unfold walOpen
           rw [if_neg (not_not_intro hE), if_neg (by rw [hd]; decide)]
           simp only
           rw [if_neg hm, hB]
           simp only
           rw [if_neg (by simp_all)]
         refine aWeak (weak_cast (k := 3) (b := .sl 1 []) rfl cast_nil) ?_
         refine aWeak (weak_cast (k := 4) (b := .sl 1 []) rfl cast_nil) ?_
         refine aRet ?_
         rw [hO]
         exact ⟨_, [_, _, _], _, rfl, (.cons (by repeat constructor) (.cons (by repeat constructor) (.cons (by repeat constructor) .nil))), .pointer none, S, W, r, rfl, .inr ⟨by show (8 : Int) ≠ 0; decide, rfl, rfl⟩⟩
        ·skip
         refine aSkip ?_
         refine aSeq ?_
         refine aSeq ?_
         refine aReg ?_
         refine sp pM ?_
         refine sa ?_
         refine ca rfl rfl rfl (wal_TurnNil (V := (⟨plotM n, 0, markL (secL D n) + 1, 0, false⟩ : WS)) (db := db) r ⟨hp, Int.le_refl _, by show (0 : Int) ≤ 2147483648; decide, Int.le_refl _, by have := hp.f; show (0 : Int) ≤ (plotM n).log; omega⟩) ?_
         rintro _ _ ⟨rfl, S2, W2, r2, rfl⟩
         refine sp pMa ?_
         refine oNil ?_
         refine aSeq ?_
         refine aReg ?_
         refine sp pM ?_
         refine sp pB ?_
         refine oNil ?_
         refine aCondNe rfl (fun c66 => ?_) (fun c66 => ?_)
         ·skip
          refine aSeq ?_
          refine aReg ?_
          refine sp pM ?_
          refine sp pMa ?_
          refine sp pMa ?_
          refine sp pMa ?_
          refine sp pMa ?_
          refine oNil ?_
          have hn : ((⟨plotM n, 0, markL (secL D n) + 1, 0, false⟩ : WS).turn D []).2.2 ≠ 0 := by simp_all
          have hO : walOpen D n = ⟨wal0, ((⟨plotM n, 0, markL (secL D n) + 1, 0, false⟩ : WS).turn D []).2.1, [], [], ((⟨plotM n, 0, markL (secL D n) + 1, 0, false⟩ : WS).turn D []).2.2⟩ := by
            unfold walOpen
            rw [if_neg (not_not_intro hE), if_neg (by rw [hd]; decide)]
            simp only
            rw [if_neg hm, hB]
            simp only
            rw [if_pos (by simp_all), if_neg hn]
          refine aWeak (weak_cast (k := 3) (b := .sl 1 []) rfl cast_nil) ?_
          refine aWeak (weak_cast (k := 4) (b := .sl 1 []) rfl cast_nil) ?_
          refine aRet ?_
          rw [hO]
          exact ⟨_, [_, _, _], _, rfl, (.cons (by repeat constructor) (.cons (by repeat constructor) (.cons (by repeat constructor) .nil))), .pointer none, S2, W2, r2, rfl, .inr ⟨hn, rfl, rfl⟩⟩
         ·skip
          refine aSkip ?_
          refine aSeq ?_
          refine aReg ?_
          refine sp pM ?_
          refine sp pMa ?_
          refine sp pMa ?_
          refine sp pMa ?_
          refine sp pMa ?_
          refine oNil ?_
          have hz : ((⟨plotM n, 0, markL (secL D n) + 1, 0, false⟩ : WS).turn D []).2.2 = 0 := by simp_all
          have hO : walOpen D n = ⟨((⟨plotM n, 0, markL (secL D n) + 1, 0, false⟩ : WS).turn D []).1, ((⟨plotM n, 0, markL (secL D n) + 1, 0, false⟩ : WS).turn D []).2.1, [], [], 0⟩ := by
            unfold walOpen
            rw [if_neg (not_not_intro hE), if_neg (by rw [hd]; decide)]
            simp only
            rw [if_neg hm, hB]
            simp only
            rw [if_pos (by simp_all), if_pos hz]
          refine aWeak (weak_cast (k := 3) (b := .sl 1 []) rfl cast_nil) ?_
          refine aWeak (weak_cast (k := 4) (b := .sl 1 []) rfl cast_nil) ?_
          refine aRet ?_
          rw [hO]
          exact ⟨_, [_, _, _, _], _, rfl, (.cons (by repeat constructor) (.cons (by repeat constructor) (.cons (by repeat constructor) (.cons (by repeat constructor) .nil)))), .pointer (some ⟨b41, 0, none⟩), S2, W2, r2, rfl, .inl ⟨rfl, b41, rfl, rfl⟩⟩
       ·skip
        refine aSkip ?_
        refine aSeq ?_
        obtain ⟨x, hB⟩ : ∃ x, betterL (partL (plotM n) (secL D n) 0) (partL (plotM n) (secL D n) 1) = some x := Option.isSome_iff_exists.1 (by simp_all)
        simp only [hB, Option.getD_some]
        refine aReg ?_
        refine sr (by first | exact rBWa ty_272 | exact rBW ty_272 | exact rBA ty_272) ?_
        refine sp pM ?_
        refine sp (pFb fd_281_0) ?_
        refine sr (rB1 ty_3) ?_
        refine sq ?_
        refine ci rfl rfl rfl (wal_tail (l := (secL D n)) (gen := x.gen) (by rw [secL_len]; exact hp) hsb hk) ?_
        refine sq ?_
        refine ci rfl rfl rfl (wal_records (l := tailL x.gen 0 ((secL D n).drop (plotM n).fr.toNat)) (by have := tailL_len x.gen 0 ((secL D n).drop (plotM n).fr.toNat); rw [List.length_drop] at this; omega) (fun p hp => (tailL_all (fun s hs => hk s (List.mem_of_mem_drop hs)) hp).1.len) (fun p hp => (tailL_all (fun s hs => hk s (List.mem_of_mem_drop hs)) hp).2)) ?_
        refine sp pM ?_
        refine sp pX ?_
        refine sp pX ?_
        refine sp pMa ?_
        refine sp pMa ?_
        refine oNil ?_
        refine aSeq ?_
        refine aReg ?_
        refine sp pM ?_
        refine sp pM ?_
        refine sp (pFb fd_281_0) ?_
        refine sr (rB1 ty_3) ?_
        refine sp pM ?_
        refine sp pNv ?_
        refine sp (pFb fd_279_2) ?_
        refine sa ?_
        refine oStB rfl rfl rfl rfl (by repeat constructor) ty_3 rfl (Nat.le_of_ble_eq_true rfl) rfl ?_
        refine sp pNv ?_
        refine sp (pFb fd_279_4) ?_
        refine sa ?_
        refine oStB rfl rfl rfl rfl (by repeat constructor) ty_3 rfl (Nat.le_of_ble_eq_true rfl) rfl ?_
        refine oNil ?_
        refine aSeq ?_
        refine aDrawT wal_Open_r20_t wal_Open_r20_b [] 8 #[false, false, false, false, false, false, false, false] (by kernel_rfl) rfl rfl (fun HT => ?_)
        refine dp HT 0 rfl pM ?_
        refine dp HT 1 rfl (pFb fd_281_1) ?_
        refine dr HT 2 rfl (rB1 ty_50) ?_
        refine dp HT 3 rfl pM ?_
        refine dp HT 4 rfl pMa ?_
        refine dp HT 5 rfl pMa ?_
        refine dp HT 6 rfl pMa ?_
        refine dp HT 7 rfl pMa ?_
        refine dE HT ?_
        clear HT
        obtain ⟨q, hq⟩ : ∃ q, recsL (tailL x.gen 0 ((secL D n).drop (plotM n).fr.toNat)) = q := ⟨_, rfl⟩
        rw [hq]
        have hO : walOpen D n = ⟨{ (⟨plotM n, 0, markL (secL D n) + 1, 0, false⟩ : WS) with gen := x.gen, next := q.2 }, D, x.b, q.1, 0⟩ := by
          unfold walOpen
          rw [if_neg (not_not_intro hE), if_neg (by rw [hd]; decide)]
          simp only
          rw [if_neg hm, hB]
          simp only
          rw [← recsL_eq (by have := tailL_len x.gen 0 ((secL D n).drop (plotM n).fr.toNat); rw [List.length_drop] at this; omega), hq]
        refine aRet ?_
        rw [hO]
        exact ⟨_, [_, _, _, _], _, rfl, (.cons (by repeat constructor) (.cons (by repeat constructor) (.cons (by repeat constructor) (.cons (by repeat constructor) .nil)))), .pointer (some ⟨b41, 0, none⟩), S, W, r, rfl, .inl ⟨rfl, b41, rfl, rfl⟩⟩
      ·skip
       refine stQ (wantN rfl) (fun t ht => by cases ht <;> decide) ?_
       refine qAlloc rfl rfl (by decide) ze_281 rfl (fun b10 => ?_)
       refine undel (d := 10) rfl ?_
       refine e1 HT 6 rfl ?_
       refine ci rfl rfl rfl (slot_Better (l := partL (plotM n) (secL D n) 0) (l2 := partL (plotM n) (secL D n) 1) (by have := partL_len (plotM n) (secL D n) 0; omega) (fun s hs => hsb s (partL_mem hs)) (fun s hs => hk s (partL_mem hs)) (by have := partL_len (plotM n) (secL D n) 1; omega) (fun s hs => hsb s (partL_mem hs)) (fun s hs => hk s (partL_mem hs))) ?_
       refine ef HT 7 rfl pM ?_
       refine ef HT 8 rfl pX ?_
       refine ef HT 9 rfl pX ?_
       refine eLast ?_
       refine f1 HT 11 rfl ?_
       refine oStW rfl rfl rfl rfl (by repeat constructor) ty_281 ?_
       refine fp HT 12 rfl pMa ?_
       refine fE HT ?_
       clear HT
       refine aSeq ?_
       refine aSeq ?_
       refine aReg ?_
       refine sp pM ?_
       refine sp pNo ?_
       refine oNil ?_
       refine aCondNot rfl (fun c58 => ?_) (fun c58 => ?_)
       ·skip
        refine aSeq ?_
        refine aSeq ?_
        have hB : betterL (partL (plotM n) (secL D n) 0) (partL (plotM n) (secL D n) 1) = none := by
          cases hB : betterL (partL (plotM n) (secL D n) 0) (partL (plotM n) (secL D n) 1) with
          | none => rfl
          | some x => simp_all
        refine aReg ?_
        refine sr (by first | exact rBWa ty_272 | exact rBW ty_272 | exact rBA ty_272) ?_
        refine sp pM ?_
        refine sq ?_
        refine ci rfl rfl rfl (wal_fresh (l := (secL D n)) (by rw [secL_len]; exact hp) hsb) ?_
        refine sp pNo ?_
        refine oNil ?_
        refine aCondNot rfl (fun c62 => ?_) (fun c62 => ?_)
        ·skip
         refine aSeq ?_
         refine aReg ?_
         refine sp pMa ?_
         refine sp pMa ?_
         refine sp pMa ?_
         refine sp pMa ?_
         refine oNil ?_
         have hO : walOpen D n = ⟨wal0, D, [], [], 8⟩ := by
           unfold walOpen
           rw [if_neg (not_not_intro hE), if_neg (by rw [hd]; decide)]
           simp only
           rw [if_neg hm, hB]
           simp only
           rw [if_neg (by simp_all)]
         refine aWeak (weak_cast (k := 3) (b := .sl 1 []) rfl cast_nil) ?_
         refine aWeak (weak_cast (k := 4) (b := .sl 1 []) rfl cast_nil) ?_
         refine aRet ?_
         rw [hO]
         exact ⟨_, [_, _, _], _, rfl, (.cons (by repeat constructor) (.cons (by repeat constructor) (.cons (by repeat constructor) .nil))), .pointer none, S, W, r, rfl, .inr ⟨by show (8 : Int) ≠ 0; decide, rfl, rfl⟩⟩
        ·skip
         refine aSkip ?_
         refine aSeq ?_
         refine aSeq ?_
         refine aReg ?_
         refine sp pM ?_
         refine sa ?_
         refine ca rfl rfl rfl (wal_TurnNil (V := (⟨plotM n, 0, markL (secL D n) + 1, 0, false⟩ : WS)) (db := db) r ⟨hp, Int.le_refl _, by show (0 : Int) ≤ 2147483648; decide, Int.le_refl _, by have := hp.f; show (0 : Int) ≤ (plotM n).log; omega⟩) ?_
         rintro _ _ ⟨rfl, S2, W2, r2, rfl⟩
         refine sp pMa ?_
         refine oNil ?_
         refine aSeq ?_
         refine aReg ?_
         refine sp pM ?_
         refine sp pB ?_
         refine oNil ?_
         refine aCondNe rfl (fun c66 => ?_) (fun c66 => ?_)
         ·skip
          refine aSeq ?_
          refine aReg ?_
          refine sp pM ?_
          refine sp pMa ?_
          refine sp pMa ?_
          refine sp pMa ?_
          refine sp pMa ?_
          refine oNil ?_
          have hn : ((⟨plotM n, 0, markL (secL D n) + 1, 0, false⟩ : WS).turn D []).2.2 ≠ 0 := by simp_all
          have hO : walOpen D n = ⟨wal0, ((⟨plotM n, 0, markL (secL D n) + 1, 0, false⟩ : WS).turn D []).2.1, [], [], ((⟨plotM n, 0, markL (secL D n) + 1, 0, false⟩ : WS).turn D []).2.2⟩ := by
            unfold walOpen
            rw [if_neg (not_not_intro hE), if_neg (by rw [hd]; decide)]
            simp only
            rw [if_neg hm, hB]
            simp only
            rw [if_pos (by simp_all), if_neg hn]
          refine aWeak (weak_cast (k := 3) (b := .sl 1 []) rfl cast_nil) ?_
          refine aWeak (weak_cast (k := 4) (b := .sl 1 []) rfl cast_nil) ?_
          refine aRet ?_
          rw [hO]
          exact ⟨_, [_, _, _], _, rfl, (.cons (by repeat constructor) (.cons (by repeat constructor) (.cons (by repeat constructor) .nil))), .pointer none, S2, W2, r2, rfl, .inr ⟨hn, rfl, rfl⟩⟩
         ·skip
          refine aSkip ?_
          refine aSeq ?_
          refine aReg ?_
          refine sp pM ?_
          refine sp pMa ?_
          refine sp pMa ?_
          refine sp pMa ?_
          refine sp pMa ?_
          refine oNil ?_
          have hz : ((⟨plotM n, 0, markL (secL D n) + 1, 0, false⟩ : WS).turn D []).2.2 = 0 := by simp_all
          have hO : walOpen D n = ⟨((⟨plotM n, 0, markL (secL D n) + 1, 0, false⟩ : WS).turn D []).1, ((⟨plotM n, 0, markL (secL D n) + 1, 0, false⟩ : WS).turn D []).2.1, [], [], 0⟩ := by
            unfold walOpen
            rw [if_neg (not_not_intro hE), if_neg (by rw [hd]; decide)]
            simp only
            rw [if_neg hm, hB]
            simp only
            rw [if_pos (by simp_all), if_pos hz]
          refine aWeak (weak_cast (k := 3) (b := .sl 1 []) rfl cast_nil) ?_
          refine aWeak (weak_cast (k := 4) (b := .sl 1 []) rfl cast_nil) ?_
          refine aRet ?_
          rw [hO]
          exact ⟨_, [_, _, _, _], _, rfl, (.cons (by repeat constructor) (.cons (by repeat constructor) (.cons (by repeat constructor) (.cons (by repeat constructor) .nil)))), .pointer (some ⟨b41, 0, none⟩), S2, W2, r2, rfl, .inl ⟨rfl, b41, rfl, rfl⟩⟩
       ·skip
        refine aSkip ?_
        refine aSeq ?_
        obtain ⟨x, hB⟩ : ∃ x, betterL (partL (plotM n) (secL D n) 0) (partL (plotM n) (secL D n) 1) = some x := Option.isSome_iff_exists.1 (by simp_all)
        simp only [hB, Option.getD_some]
        refine aReg ?_
        refine sr (by first | exact rBWa ty_272 | exact rBW ty_272 | exact rBA ty_272) ?_
        refine sp pM ?_
        refine sp (pFb fd_281_0) ?_
        refine sr (rB1 ty_3) ?_
        refine sq ?_
        refine ci rfl rfl rfl (wal_tail (l := (secL D n)) (gen := x.gen) (by rw [secL_len]; exact hp) hsb hk) ?_
        refine sq ?_
        refine ci rfl rfl rfl (wal_records (l := tailL x.gen 0 ((secL D n).drop (plotM n).fr.toNat)) (by have := tailL_len x.gen 0 ((secL D n).drop (plotM n).fr.toNat); rw [List.length_drop] at this; omega) (fun p hp => (tailL_all (fun s hs => hk s (List.mem_of_mem_drop hs)) hp).1.len) (fun p hp => (tailL_all (fun s hs => hk s (List.mem_of_mem_drop hs)) hp).2)) ?_
        refine sp pM ?_
        refine sp pX ?_
        refine sp pX ?_
        refine sp pMa ?_
        refine sp pMa ?_
        refine oNil ?_
        refine aSeq ?_
        refine aReg ?_
        refine sp pM ?_
        refine sp pM ?_
        refine sp (pFb fd_281_0) ?_
        refine sr (rB1 ty_3) ?_
        refine sp pM ?_
        refine sp pNv ?_
        refine sp (pFb fd_279_2) ?_
        refine sa ?_
        refine oStB rfl rfl rfl rfl (by repeat constructor) ty_3 rfl (Nat.le_of_ble_eq_true rfl) rfl ?_
        refine sp pNv ?_
        refine sp (pFb fd_279_4) ?_
        refine sa ?_
        refine oStB rfl rfl rfl rfl (by repeat constructor) ty_3 rfl (Nat.le_of_ble_eq_true rfl) rfl ?_
        refine oNil ?_
        refine aSeq ?_
        refine aDrawT wal_Open_r20_t wal_Open_r20_b [] 8 #[false, false, false, false, false, false, false, false] (by kernel_rfl) rfl rfl (fun HT => ?_)
        refine dp HT 0 rfl pM ?_
        refine dp HT 1 rfl (pFb fd_281_1) ?_
        refine dr HT 2 rfl (rB1 ty_50) ?_
        refine dp HT 3 rfl pM ?_
        refine dp HT 4 rfl pMa ?_
        refine dp HT 5 rfl pMa ?_
        refine dp HT 6 rfl pMa ?_
        refine dp HT 7 rfl pMa ?_
        refine dE HT ?_
        clear HT
        obtain ⟨q, hq⟩ : ∃ q, recsL (tailL x.gen 0 ((secL D n).drop (plotM n).fr.toNat)) = q := ⟨_, rfl⟩
        rw [hq]
        have hO : walOpen D n = ⟨{ (⟨plotM n, 0, markL (secL D n) + 1, 0, false⟩ : WS) with gen := x.gen, next := q.2 }, D, x.b, q.1, 0⟩ := by
          unfold walOpen
          rw [if_neg (not_not_intro hE), if_neg (by rw [hd]; decide)]
          simp only
          rw [if_neg hm, hB]
          simp only
          rw [← recsL_eq (by have := tailL_len x.gen 0 ((secL D n).drop (plotM n).fr.toNat); rw [List.length_drop] at this; omega), hq]
        refine aRet ?_
        rw [hO]
        exact ⟨_, [_, _, _, _], _, rfl, (.cons (by repeat constructor) (.cons (by repeat constructor) (.cons (by repeat constructor) (.cons (by repeat constructor) .nil)))), .pointer (some ⟨b41, 0, none⟩), S, W, r, rfl, .inl ⟨rfl, b41, rfl, rfl⟩⟩
     ·skip
      refine stQ (wantN rfl) (fun t ht => by cases ht <;> decide) ?_
      refine qAlloc rfl rfl (by decide) ze_281 rfl (fun b10 => ?_)
      refine undel (d := 10) rfl ?_
      refine e1 HT 5 rfl ?_
      refine ci rfl rfl rfl (wal_part (l := (secL D n)) (g := 1) (by rw [secL_len]; exact hp) (by decide)) ?_
      refine e1 HT 6 rfl ?_
      refine ci rfl rfl rfl (slot_Better (l := partL (plotM n) (secL D n) 0) (l2 := partL (plotM n) (secL D n) 1) (by have := partL_len (plotM n) (secL D n) 0; omega) (fun s hs => hsb s (partL_mem hs)) (fun s hs => hk s (partL_mem hs)) (by have := partL_len (plotM n) (secL D n) 1; omega) (fun s hs => hsb s (partL_mem hs)) (fun s hs => hk s (partL_mem hs))) ?_
      refine ef HT 7 rfl pM ?_
      refine ef HT 8 rfl pX ?_
      refine ef HT 9 rfl pX ?_
      refine eLast ?_
      refine f1 HT 11 rfl ?_
      refine oStW rfl rfl rfl rfl (by repeat constructor) ty_281 ?_
      refine fp HT 12 rfl pMa ?_
      refine fE HT ?_
      clear HT
      refine aSeq ?_
      refine aSeq ?_
      refine aReg ?_
      refine sp pM ?_
      refine sp pNo ?_
      refine oNil ?_
      refine aCondNot rfl (fun c58 => ?_) (fun c58 => ?_)
      ·skip
       refine aSeq ?_
       refine aSeq ?_
       have hB : betterL (partL (plotM n) (secL D n) 0) (partL (plotM n) (secL D n) 1) = none := by
         cases hB : betterL (partL (plotM n) (secL D n) 0) (partL (plotM n) (secL D n) 1) with
         | none => rfl
         | some x => simp_all
       refine aReg ?_
       refine sr (by first | exact rBWa ty_272 | exact rBW ty_272 | exact rBA ty_272) ?_
       refine sp pM ?_
       refine sq ?_
       refine ci rfl rfl rfl (wal_fresh (l := (secL D n)) (by rw [secL_len]; exact hp) hsb) ?_
       refine sp pNo ?_
       refine oNil ?_
       refine aCondNot rfl (fun c62 => ?_) (fun c62 => ?_)
       ·skip
        refine aSeq ?_
        refine aReg ?_
        refine sp pMa ?_
        refine sp pMa ?_
        refine sp pMa ?_
        refine sp pMa ?_
        refine oNil ?_
        have hO : walOpen D n = ⟨wal0, D, [], [], 8⟩ := by
          unfold walOpen
          rw [if_neg (not_not_intro hE), if_neg (by rw [hd]; decide)]
          simp only
          rw [if_neg hm, hB]
          simp only
          rw [if_neg (by simp_all)]
        refine aWeak (weak_cast (k := 3) (b := .sl 1 []) rfl cast_nil) ?_
        refine aWeak (weak_cast (k := 4) (b := .sl 1 []) rfl cast_nil) ?_
        refine aRet ?_
        rw [hO]
        exact ⟨_, [_, _, _], _, rfl, (.cons (by repeat constructor) (.cons (by repeat constructor) (.cons (by repeat constructor) .nil))), .pointer none, S, W, r, rfl, .inr ⟨by show (8 : Int) ≠ 0; decide, rfl, rfl⟩⟩
       ·skip
        refine aSkip ?_
        refine aSeq ?_
        refine aSeq ?_
        refine aReg ?_
        refine sp pM ?_
        refine sa ?_
        refine ca rfl rfl rfl (wal_TurnNil (V := (⟨plotM n, 0, markL (secL D n) + 1, 0, false⟩ : WS)) (db := db) r ⟨hp, Int.le_refl _, by show (0 : Int) ≤ 2147483648; decide, Int.le_refl _, by have := hp.f; show (0 : Int) ≤ (plotM n).log; omega⟩) ?_
        rintro _ _ ⟨rfl, S2, W2, r2, rfl⟩
        refine sp pMa ?_
        refine oNil ?_
        refine aSeq ?_
        refine aReg ?_
        refine sp pM ?_
        refine sp pB ?_
        refine oNil ?_
        refine aCondNe rfl (fun c66 => ?_) (fun c66 => ?_)
        ·skip
         refine aSeq ?_
         refine aReg ?_
         refine sp pM ?_
         refine sp pMa ?_
         refine sp pMa ?_
         refine sp pMa ?_
         refine sp pMa ?_
         refine oNil ?_
         have hn : ((⟨plotM n, 0, markL (secL D n) + 1, 0, false⟩ : WS).turn D []).2.2 ≠ 0 := by simp_all
         have hO : walOpen D n = ⟨wal0, ((⟨plotM n, 0, markL (secL D n) + 1, 0, false⟩ : WS).turn D []).2.1, [], [], ((⟨plotM n, 0, markL (secL D n) + 1, 0, false⟩ : WS).turn D []).2.2⟩ := by
           unfold walOpen
           rw [if_neg (not_not_intro hE), if_neg (by rw [hd]; decide)]
           simp only
           rw [if_neg hm, hB]
           simp only
           rw [if_pos (by simp_all), if_neg hn]
         refine aWeak (weak_cast (k := 3) (b := .sl 1 []) rfl cast_nil) ?_
         refine aWeak (weak_cast (k := 4) (b := .sl 1 []) rfl cast_nil) ?_
         refine aRet ?_
         rw [hO]
         exact ⟨_, [_, _, _], _, rfl, (.cons (by repeat constructor) (.cons (by repeat constructor) (.cons (by repeat constructor) .nil))), .pointer none, S2, W2, r2, rfl, .inr ⟨hn, rfl, rfl⟩⟩
        ·skip
         refine aSkip ?_
         refine aSeq ?_
         refine aReg ?_
         refine sp pM ?_
         refine sp pMa ?_
         refine sp pMa ?_
         refine sp pMa ?_
         refine sp pMa ?_
         refine oNil ?_
         have hz : ((⟨plotM n, 0, markL (secL D n) + 1, 0, false⟩ : WS).turn D []).2.2 = 0 := by simp_all
         have hO : walOpen D n = ⟨((⟨plotM n, 0, markL (secL D n) + 1, 0, false⟩ : WS).turn D []).1, ((⟨plotM n, 0, markL (secL D n) + 1, 0, false⟩ : WS).turn D []).2.1, [], [], 0⟩ := by
           unfold walOpen
           rw [if_neg (not_not_intro hE), if_neg (by rw [hd]; decide)]
           simp only
           rw [if_neg hm, hB]
           simp only
           rw [if_pos (by simp_all), if_pos hz]
         refine aWeak (weak_cast (k := 3) (b := .sl 1 []) rfl cast_nil) ?_
         refine aWeak (weak_cast (k := 4) (b := .sl 1 []) rfl cast_nil) ?_
         refine aRet ?_
         rw [hO]
         exact ⟨_, [_, _, _, _], _, rfl, (.cons (by repeat constructor) (.cons (by repeat constructor) (.cons (by repeat constructor) (.cons (by repeat constructor) .nil)))), .pointer (some ⟨b41, 0, none⟩), S2, W2, r2, rfl, .inl ⟨rfl, b41, rfl, rfl⟩⟩
      ·skip
       refine aSkip ?_
       refine aSeq ?_
       obtain ⟨x, hB⟩ : ∃ x, betterL (partL (plotM n) (secL D n) 0) (partL (plotM n) (secL D n) 1) = some x := Option.isSome_iff_exists.1 (by simp_all)
       simp only [hB, Option.getD_some]
       refine aReg ?_
       refine sr (by first | exact rBWa ty_272 | exact rBW ty_272 | exact rBA ty_272) ?_
       refine sp pM ?_
       refine sp (pFb fd_281_0) ?_
       refine sr (rB1 ty_3) ?_
       refine sq ?_
       refine ci rfl rfl rfl (wal_tail (l := (secL D n)) (gen := x.gen) (by rw [secL_len]; exact hp) hsb hk) ?_
       refine sq ?_
       refine ci rfl rfl rfl (wal_records (l := tailL x.gen 0 ((secL D n).drop (plotM n).fr.toNat)) (by have := tailL_len x.gen 0 ((secL D n).drop (plotM n).fr.toNat); rw [List.length_drop] at this; omega) (fun p hp => (tailL_all (fun s hs => hk s (List.mem_of_mem_drop hs)) hp).1.len) (fun p hp => (tailL_all (fun s hs => hk s (List.mem_of_mem_drop hs)) hp).2)) ?_
       refine sp pM ?_
       refine sp pX ?_
       refine sp pX ?_
       refine sp pMa ?_
       refine sp pMa ?_
       refine oNil ?_
       refine aSeq ?_
       refine aReg ?_
       refine sp pM ?_
       refine sp pM ?_
       refine sp (pFb fd_281_0) ?_
       refine sr (rB1 ty_3) ?_
       refine sp pM ?_
       refine sp pNv ?_
       refine sp (pFb fd_279_2) ?_
       refine sa ?_
       refine oStB rfl rfl rfl rfl (by repeat constructor) ty_3 rfl (Nat.le_of_ble_eq_true rfl) rfl ?_
       refine sp pNv ?_
       refine sp (pFb fd_279_4) ?_
       refine sa ?_
       refine oStB rfl rfl rfl rfl (by repeat constructor) ty_3 rfl (Nat.le_of_ble_eq_true rfl) rfl ?_
       refine oNil ?_
       refine aSeq ?_
       refine aDrawT wal_Open_r20_t wal_Open_r20_b [] 8 #[false, false, false, false, false, false, false, false] (by kernel_rfl) rfl rfl (fun HT => ?_)
       refine dp HT 0 rfl pM ?_
       refine dp HT 1 rfl (pFb fd_281_1) ?_
       refine dr HT 2 rfl (rB1 ty_50) ?_
       refine dp HT 3 rfl pM ?_
       refine dp HT 4 rfl pMa ?_
       refine dp HT 5 rfl pMa ?_
       refine dp HT 6 rfl pMa ?_
       refine dp HT 7 rfl pMa ?_
       refine dE HT ?_
       clear HT
       obtain ⟨q, hq⟩ : ∃ q, recsL (tailL x.gen 0 ((secL D n).drop (plotM n).fr.toNat)) = q := ⟨_, rfl⟩
       rw [hq]
       have hO : walOpen D n = ⟨{ (⟨plotM n, 0, markL (secL D n) + 1, 0, false⟩ : WS) with gen := x.gen, next := q.2 }, D, x.b, q.1, 0⟩ := by
         unfold walOpen
         rw [if_neg (not_not_intro hE), if_neg (by rw [hd]; decide)]
         simp only
         rw [if_neg hm, hB]
         simp only
         rw [← recsL_eq (by have := tailL_len x.gen 0 ((secL D n).drop (plotM n).fr.toNat); rw [List.length_drop] at this; omega), hq]
       refine aRet ?_
       rw [hO]
       exact ⟨_, [_, _, _, _], _, rfl, (.cons (by repeat constructor) (.cons (by repeat constructor) (.cons (by repeat constructor) (.cons (by repeat constructor) .nil)))), .pointer (some ⟨b41, 0, none⟩), S, W, r, rfl, .inl ⟨rfl, b41, rfl, rfl⟩⟩
    ·skip
     refine stQ (wantN rfl) (fun t ht => by cases ht <;> decide) ?_
     refine qAlloc rfl rfl (by decide) ze_281 rfl (fun b10 => ?_)
     refine undel (d := 10) rfl ?_
     refine e1 HT 2 rfl ?_
     refine ci rfl rfl rfl (wal_part (l := (secL D n)) (g := 0) (by rw [secL_len]; exact hp) (by decide)) ?_
     refine e1 HT 5 rfl ?_
     refine ci rfl rfl rfl (wal_part (l := (secL D n)) (g := 1) (by rw [secL_len]; exact hp) (by decide)) ?_
     refine e1 HT 6 rfl ?_
     refine ci rfl rfl rfl (slot_Better (l := partL (plotM n) (secL D n) 0) (l2 := partL (plotM n) (secL D n) 1) (by have := partL_len (plotM n) (secL D n) 0; omega) (fun s hs => hsb s (partL_mem hs)) (fun s hs => hk s (partL_mem hs)) (by have := partL_len (plotM n) (secL D n) 1; omega) (fun s hs => hsb s (partL_mem hs)) (fun s hs => hk s (partL_mem hs))) ?_
     refine ef HT 7 rfl pM ?_
     refine ef HT 8 rfl pX ?_
     refine ef HT 9 rfl pX ?_
     refine eLast ?_
     refine f1 HT 11 rfl ?_
     refine oStW rfl rfl rfl rfl (by repeat constructor) ty_281 ?_
     refine fp HT 12 rfl pMa ?_
     refine fE HT ?_
     clear HT
     refine aSeq ?_
     refine aSeq ?_
     refine aReg ?_
     refine sp pM ?_
     refine sp pNo ?_
     refine oNil ?_
     refine aCondNot rfl (fun c58 => ?_) (fun c58 => ?_)
     ·skip
      refine aSeq ?_
      refine aSeq ?_
      have hB : betterL (partL (plotM n) (secL D n) 0) (partL (plotM n) (secL D n) 1) = none := by
        cases hB : betterL (partL (plotM n) (secL D n) 0) (partL (plotM n) (secL D n) 1) with
        | none => rfl
        | some x => simp_all
      refine aReg ?_
      refine sr (by first | exact rBWa ty_272 | exact rBW ty_272 | exact rBA ty_272) ?_
      refine sp pM ?_
      refine sq ?_
      refine ci rfl rfl rfl (wal_fresh (l := (secL D n)) (by rw [secL_len]; exact hp) hsb) ?_
      refine sp pNo ?_
      refine oNil ?_
      refine aCondNot rfl (fun c62 => ?_) (fun c62 => ?_)
      ·skip
       refine aSeq ?_
       refine aReg ?_
       refine sp pMa ?_
       refine sp pMa ?_
       refine sp pMa ?_
       refine sp pMa ?_
       refine oNil ?_
       have hO : walOpen D n = ⟨wal0, D, [], [], 8⟩ := by
         unfold walOpen
         rw [if_neg (not_not_intro hE), if_neg (by rw [hd]; decide)]
         simp only
         rw [if_neg hm, hB]
         simp only
         rw [if_neg (by simp_all)]
       refine aWeak (weak_cast (k := 3) (b := .sl 1 []) rfl cast_nil) ?_
       refine aWeak (weak_cast (k := 4) (b := .sl 1 []) rfl cast_nil) ?_
       refine aRet ?_
       rw [hO]
       exact ⟨_, [_, _, _], _, rfl, (.cons (by repeat constructor) (.cons (by repeat constructor) (.cons (by repeat constructor) .nil))), .pointer none, S, W, r, rfl, .inr ⟨by show (8 : Int) ≠ 0; decide, rfl, rfl⟩⟩
      ·skip
       refine aSkip ?_
       refine aSeq ?_
       refine aSeq ?_
       refine aReg ?_
       refine sp pM ?_
       refine sa ?_
       refine ca rfl rfl rfl (wal_TurnNil (V := (⟨plotM n, 0, markL (secL D n) + 1, 0, false⟩ : WS)) (db := db) r ⟨hp, Int.le_refl _, by show (0 : Int) ≤ 2147483648; decide, Int.le_refl _, by have := hp.f; show (0 : Int) ≤ (plotM n).log; omega⟩) ?_
       rintro _ _ ⟨rfl, S2, W2, r2, rfl⟩
       refine sp pMa ?_
       refine oNil ?_
       refine aSeq ?_
       refine aReg ?_
       refine sp pM ?_
       refine sp pB ?_
       refine oNil ?_
       refine aCondNe rfl (fun c66 => ?_) (fun c66 => ?_)
       ·skip
        refine aSeq ?_
        refine aReg ?_
        refine sp pM ?_
        refine sp pMa ?_
        refine sp pMa ?_
        refine sp pMa ?_
        refine sp pMa ?_
        refine oNil ?_
        have hn : ((⟨plotM n, 0, markL (secL D n) + 1, 0, false⟩ : WS).turn D []).2.2 ≠ 0 := by simp_all
        have hO : walOpen D n = ⟨wal0, ((⟨plotM n, 0, markL (secL D n) + 1, 0, false⟩ : WS).turn D []).2.1, [], [], ((⟨plotM n, 0, markL (secL D n) + 1, 0, false⟩ : WS).turn D []).2.2⟩ := by
          unfold walOpen
          rw [if_neg (not_not_intro hE), if_neg (by rw [hd]; decide)]
          simp only
          rw [if_neg hm, hB]
          simp only
          rw [if_pos (by simp_all), if_neg hn]
        refine aWeak (weak_cast (k := 3) (b := .sl 1 []) rfl cast_nil) ?_
        refine aWeak (weak_cast (k := 4) (b := .sl 1 []) rfl cast_nil) ?_
        refine aRet ?_
        rw [hO]
        exact ⟨_, [_, _, _], _, rfl, (.cons (by repeat constructor) (.cons (by repeat constructor) (.cons (by repeat constructor) .nil))), .pointer none, S2, W2, r2, rfl, .inr ⟨hn, rfl, rfl⟩⟩
       ·skip
        refine aSkip ?_
        refine aSeq ?_
        refine aReg ?_
        refine sp pM ?_
        refine sp pMa ?_
        refine sp pMa ?_
        refine sp pMa ?_
        refine sp pMa ?_
        refine oNil ?_
        have hz : ((⟨plotM n, 0, markL (secL D n) + 1, 0, false⟩ : WS).turn D []).2.2 = 0 := by simp_all
        have hO : walOpen D n = ⟨((⟨plotM n, 0, markL (secL D n) + 1, 0, false⟩ : WS).turn D []).1, ((⟨plotM n, 0, markL (secL D n) + 1, 0, false⟩ : WS).turn D []).2.1, [], [], 0⟩ := by
          unfold walOpen
          rw [if_neg (not_not_intro hE), if_neg (by rw [hd]; decide)]
          simp only
          rw [if_neg hm, hB]
          simp only
          rw [if_pos (by simp_all), if_pos hz]
        refine aWeak (weak_cast (k := 3) (b := .sl 1 []) rfl cast_nil) ?_
        refine aWeak (weak_cast (k := 4) (b := .sl 1 []) rfl cast_nil) ?_
        refine aRet ?_
        rw [hO]
        exact ⟨_, [_, _, _, _], _, rfl, (.cons (by repeat constructor) (.cons (by repeat constructor) (.cons (by repeat constructor) (.cons (by repeat constructor) .nil)))), .pointer (some ⟨b41, 0, none⟩), S2, W2, r2, rfl, .inl ⟨rfl, b41, rfl, rfl⟩⟩
     ·skip
      refine aSkip ?_
      refine aSeq ?_
      obtain ⟨x, hB⟩ : ∃ x, betterL (partL (plotM n) (secL D n) 0) (partL (plotM n) (secL D n) 1) = some x := Option.isSome_iff_exists.1 (by simp_all)
      simp only [hB, Option.getD_some]
      refine aReg ?_
      refine sr (by first | exact rBWa ty_272 | exact rBW ty_272 | exact rBA ty_272) ?_
      refine sp pM ?_
      refine sp (pFb fd_281_0) ?_
      refine sr (rB1 ty_3) ?_
      refine sq ?_
      refine ci rfl rfl rfl (wal_tail (l := (secL D n)) (gen := x.gen) (by rw [secL_len]; exact hp) hsb hk) ?_
      refine sq ?_
      refine ci rfl rfl rfl (wal_records (l := tailL x.gen 0 ((secL D n).drop (plotM n).fr.toNat)) (by have := tailL_len x.gen 0 ((secL D n).drop (plotM n).fr.toNat); rw [List.length_drop] at this; omega) (fun p hp => (tailL_all (fun s hs => hk s (List.mem_of_mem_drop hs)) hp).1.len) (fun p hp => (tailL_all (fun s hs => hk s (List.mem_of_mem_drop hs)) hp).2)) ?_
      refine sp pM ?_
      refine sp pX ?_
      refine sp pX ?_
      refine sp pMa ?_
      refine sp pMa ?_
      refine oNil ?_
      refine aSeq ?_
      refine aReg ?_
      refine sp pM ?_
      refine sp pM ?_
      refine sp (pFb fd_281_0) ?_
      refine sr (rB1 ty_3) ?_
      refine sp pM ?_
      refine sp pNv ?_
      refine sp (pFb fd_279_2) ?_
      refine sa ?_
      refine oStB rfl rfl rfl rfl (by repeat constructor) ty_3 rfl (Nat.le_of_ble_eq_true rfl) rfl ?_
      refine sp pNv ?_
      refine sp (pFb fd_279_4) ?_
      refine sa ?_
      refine oStB rfl rfl rfl rfl (by repeat constructor) ty_3 rfl (Nat.le_of_ble_eq_true rfl) rfl ?_
      refine oNil ?_
      refine aSeq ?_
      refine aDrawT wal_Open_r20_t wal_Open_r20_b [] 8 #[false, false, false, false, false, false, false, false] (by kernel_rfl) rfl rfl (fun HT => ?_)
      refine dp HT 0 rfl pM ?_
      refine dp HT 1 rfl (pFb fd_281_1) ?_
      refine dr HT 2 rfl (rB1 ty_50) ?_
      refine dp HT 3 rfl pM ?_
      refine dp HT 4 rfl pMa ?_
      refine dp HT 5 rfl pMa ?_
      refine dp HT 6 rfl pMa ?_
      refine dp HT 7 rfl pMa ?_
      refine dE HT ?_
      clear HT
      obtain ⟨q, hq⟩ : ∃ q, recsL (tailL x.gen 0 ((secL D n).drop (plotM n).fr.toNat)) = q := ⟨_, rfl⟩
      rw [hq]
      have hO : walOpen D n = ⟨{ (⟨plotM n, 0, markL (secL D n) + 1, 0, false⟩ : WS) with gen := x.gen, next := q.2 }, D, x.b, q.1, 0⟩ := by
        unfold walOpen
        rw [if_neg (not_not_intro hE), if_neg (by rw [hd]; decide)]
        simp only
        rw [if_neg hm, hB]
        simp only
        rw [← recsL_eq (by have := tailL_len x.gen 0 ((secL D n).drop (plotM n).fr.toNat); rw [List.length_drop] at this; omega), hq]
      refine aRet ?_
      rw [hO]
      exact ⟨_, [_, _, _, _], _, rfl, (.cons (by repeat constructor) (.cons (by repeat constructor) (.cons (by repeat constructor) (.cons (by repeat constructor) .nil)))), .pointer (some ⟨b41, 0, none⟩), S, W, r, rfl, .inl ⟨rfl, b41, rfl, rfl⟩⟩
end A
end Go.Proofs.YthkgdhamnpiagaaGreat
namespace Go.Proofs.YthkgdhamnpiagaaGreat
namespace A
def nodeB (n : Int) : Bool := decide (1 ≤ n) && decide (n ≤ 64)
structure Link where
 t : Int
 c : Int
 deriving DecidableEq
structure Lsa where
 o : Int
 s : Int
 ls : List Link
 deriving DecidableEq
def linkC (x : Link) : List AV := [.int x.t, .int x.c]
def lsaC (l : Lsa) : List AV := [.int l.o, .int l.s, .sl 2 (l.ls.map linkC)]
/-- Links from a place on, behind the last node. -/
def linksB (o : Int) : Int → List Link → Bool
 | _, [] => true
 | last, x :: l => (nodeB x.t && decide (last < x.t) && !(x.t == o) && decide (1 ≤ x.c) && decide (x.c ≤ 1073741824)) && linksB o x.t l
def lsaB (l : Lsa) : Bool := nodeB l.o && decide (1 ≤ l.s) && decide (l.s ≤ 4611686018427387904) && decide (l.ls.length ≤ 16) && linksB l.o 0 l.ls
theorem links_step {o last : Int} {l : List Link} {i : Nat} {x : Link} (h : l[i]? = some x) : linksB o last (l.drop i) = ((nodeB x.t && decide (last < x.t) && !(x.t == o) && decide (1 ≤ x.c) && decide (x.c ≤ 1073741824)) && linksB o x.t (l.drop (i + 1))) := by
 rw [drop_step h]
 rfl
def lsdbB : Int → List Lsa → Bool
 | _, [] => true
 | last, x :: l => (lsaB x && decide (last < x.o)) && lsdbB x.o l
theorem lsdb_step {last : Int} {l : List Lsa} {i : Nat} {x : Lsa} (h : l[i]? = some x) : lsdbB last (l.drop i) = ((lsaB x && decide (last < x.o)) && lsdbB x.o (l.drop (i + 1))) := by
 rw [drop_step h]
 rfl
theorem lsdb_len : ∀ {l : List Lsa} {last : Int}, 0 ≤ last → lsdbB last l = true → last + l.length ≤ 64 ∨ l = []
 | [], last, _, _ => .inr rfl
 | x :: l, last, h0, h => by
   simp only [lsdbB, Bool.and_eq_true, decide_eq_true_eq] at h
   obtain ⟨⟨h1, h2⟩, h3⟩ := h
   have h4 : x.o ≤ 64 := by simp only [lsaB, nodeB, Bool.and_eq_true, decide_eq_true_eq] at h1; omega
   rcases lsdb_len (by omega) h3 with h5 | h5
   ·left; simp only [List.length_cons]; omega
   ·subst h5; left; simp only [List.length_cons, List.length_nil]; omega
theorem lsdb_len64 {l : List Lsa} (h : lsdbB 0 l = true) : l.length ≤ 64 := by
 rcases lsdb_len (Int.le_refl 0) h with h | h
 ·omega
 ·subst h; simp
theorem lsdb_mem : ∀ {l : List Lsa} {last : Int}, lsdbB last l = true → ∀ x ∈ l, lsaB x = true
 | [], _, _, x, hx => by simp at hx
 | y :: l, last, h, x, hx => by
   simp only [lsdbB, Bool.and_eq_true, decide_eq_true_eq] at h
   rcases List.mem_cons.1 hx with rfl | hx
   ·exact h.1.1
   ·exact lsdb_mem h.2 x hx
theorem lsa_links {l : Lsa} (h : lsaB l = true) : l.ls.length ≤ 16 := by simp only [lsaB, Bool.and_eq_true, decide_eq_true_eq] at h; omega
end A
end Go.Proofs.YthkgdhamnpiagaaGreat
namespace Go.Proofs.YthkgdhamnpiagaaGreat
namespace A
/-! ### Lists in the order of a key -/
def posK {α : Type} (f : α → Int) (l : List α) (n : Int) : Nat := (l.filter fun x => decide (f x < n)).length
def hasK {α : Type} (f : α → Int) (l : List α) (n : Int) : Bool := l.any fun x => f x == n
section
variable {α : Type} {f : α → Int}
theorem sortK_at {l : List α} (hs : l.Pairwise (fun x y => f x < f y)) {i j : Nat} {x y : α} (hx : l[i]? = some x) (hy : l[j]? = some y) (h : i < j) : f x < f y := by
 obtain ⟨hi, rfl⟩ := List.getElem?_eq_some_iff.1 hx
 obtain ⟨hj, rfl⟩ := List.getElem?_eq_some_iff.1 hy
 exact List.pairwise_iff_getElem.1 hs i j hi hj h
theorem posK_le (l : List α) (n : Int) : posK f l n ≤ l.length := List.length_filter_le _ _
theorem posK_is {l : List α} {n : Int} {i : Nat} (hi : i ≤ l.length) (h1 : ∀ k x, k < i → l[k]? = some x → f x < n) (h2 : ∀ k x, i ≤ k → l[k]? = some x → n ≤ f x) : posK f l n = i := by
 unfold posK
 rw [← List.take_append_drop i l, List.filter_append, List.length_append, List.filter_eq_self.2 (fun x hx => ?_), List.filter_eq_nil_iff.2 (fun x hx => ?_)]
 ·rw [List.length_take, List.length_nil]; omega
 ·obtain ⟨k, hk⟩ := List.mem_iff_getElem?.1 hx
  rw [List.getElem?_drop] at hk
  have := h2 (i + k) x (by omega) hk
  simp
  omega
 ·obtain ⟨k, hk⟩ := List.mem_iff_getElem?.1 hx
  rw [List.getElem?_take] at hk
  split at hk
  ·exact decide_eq_true (h1 k x (by assumption) hk)
  ·cases hk
theorem hasK_pos {l : List α} (hs : l.Pairwise (fun x y => f x < f y)) {n : Int} {i : Nat} (h1 : ∀ k x, k < i → l[k]? = some x → f x < n) (h2 : ∀ k x, i ≤ k → l[k]? = some x → n ≤ f x) : hasK f l n = match l[i]? with | some x => f x == n | none => false := by
 unfold hasK
 rw [Bool.eq_iff_iff, List.any_eq_true]
 constructor
 ·rintro ⟨x, hx, hn⟩
  obtain ⟨k, hk⟩ := List.mem_iff_getElem?.1 hx
  have hn : f x = n := by simpa using hn
  by_cases hlt : k < i
  ·have := h1 k x hlt hk; omega
  ·by_cases e : k = i
   ·subst e; rw [hk]; simpa using hn
   ·obtain ⟨hkl, _⟩ := List.getElem?_eq_some_iff.1 hk
    have hil : l[i]? = some l[i] := List.getElem?_eq_getElem (by omega)
    have := sortK_at hs hil hk (by omega)
    have := h2 i _ (Nat.le_refl _) hil
    omega
 ·intro h
  split at h
  ·rename_i x hx; exact ⟨x, List.mem_of_getElem? hx, h⟩
  ·cases h
/-- At the place of a key: all ahead have less, none behind has less. -/
theorem posK_split {l : List α} (hs : l.Pairwise (fun x y => f x < f y)) (n : Int) : (∀ x ∈ l.take (posK f l n), f x < n) ∧ ∀ x ∈ l.drop (posK f l n), n ≤ f x := by
 induction l with
 | nil => simp [posK]
 | cons a t ih =>
   have hs' := List.pairwise_cons.1 hs
   obtain ⟨h1, h2⟩ := ih hs'.2
   by_cases ha : f a < n
   ·have : posK f (a :: t) n = posK f t n + 1 := by unfold posK; rw [List.filter_cons, if_pos (by simp [ha])]; rfl
    rw [this, List.take_succ_cons, List.drop_succ_cons]
    refine ⟨fun x hx => ?_, h2⟩
    rcases List.mem_cons.1 hx with rfl | hx
    ·exact ha
    ·exact h1 x hx
   ·have h0 : posK f (a :: t) n = 0 := by
      unfold posK
      rw [List.filter_cons, if_neg (by simp; omega), List.length_eq_zero_iff, List.filter_eq_nil_iff]
      intro x hx
      have := hs'.1 x hx
      simp; omega
    rw [h0]
    refine ⟨fun x hx => by simp at hx, fun x hx => ?_⟩
    rcases List.mem_cons.1 hx with rfl | hx
    ·omega
    ·have := hs'.1 x hx; omega
theorem hasK_iff {l : List α} {n : Int} : hasK f l n = true ↔ ∃ x ∈ l, f x = n := by
 unfold hasK
 simp
theorem hasK_at {l : List α} (hs : l.Pairwise (fun x y => f x < f y)) {n : Int} (h : hasK f l n = true) : ∃ x, l[posK f l n]? = some x ∧ f x = n := by
 obtain ⟨h1, h2⟩ := posK_split hs n
 obtain ⟨y, hy, hn⟩ := hasK_iff.1 h
 rw [← List.take_append_drop (posK f l n) l] at hy
 rcases List.mem_append.1 hy with hy | hy
 ·have := h1 y hy; omega
 ·obtain ⟨k, hk⟩ := List.mem_iff_getElem?.1 hy
  rw [List.getElem?_drop] at hk
  match k, hk with
  | 0, hk => exact ⟨y, hk, hn⟩
  | k + 1, hk =>
    have hl : posK f l n < l.length := by have := (List.getElem?_eq_some_iff.1 hk).1; omega
    have h3 : l[posK f l n]? = some l[posK f l n] := List.getElem?_eq_getElem hl
    have h4 := sortK_at hs h3 hk (by omega)
    have h5 := h2 l[posK f l n] (List.mem_of_getElem? (i := 0) (by rw [List.getElem?_drop, Nat.add_zero]; exact h3))
    omega
def insK (f : α → Int) (l : List α) (x : α) : List α := l.take (posK f l (f x)) ++ x :: l.drop (posK f l (f x))
theorem insK_len (l : List α) (x : α) : (insK f l x).length = l.length + 1 := by
 have := posK_le (f := f) l (f x)
 simp only [insK, List.length_append, List.length_take, List.length_cons, List.length_drop]
 omega
theorem mem_insK {l : List α} {x y : α} : y ∈ insK f l x ↔ y = x ∨ y ∈ l := by
 unfold insK
 rw [List.mem_append, List.mem_cons]
 constructor
 ·rintro (h | h | h)
  ·exact .inr (List.mem_of_mem_take h)
  ·exact .inl h
  ·exact .inr (List.mem_of_mem_drop h)
 ·rintro (h | h)
  ·exact .inr (.inl h)
  ·rw [← List.take_append_drop (posK f l (f x)) l] at h
   rcases List.mem_append.1 h with h | h
   ·exact .inl h
   ·exact .inr (.inr h)
theorem insK_sorted {l : List α} (hs : l.Pairwise (fun x y => f x < f y)) {x : α} (h : hasK f l (f x) = false) : (insK f l x).Pairwise (fun x y => f x < f y) := by
 obtain ⟨h1, h2⟩ := posK_split hs (f x)
 unfold insK
 rw [List.pairwise_append]
 refine ⟨hs.sublist (List.take_sublist _ _), List.pairwise_cons.2 ⟨fun y hy => ?_, hs.sublist (List.drop_sublist _ _)⟩, fun a ha b hb => ?_⟩
 ·have := h2 y hy
  have h3 : f y ≠ f x := fun e => by
    have : hasK f l (f x) = true := hasK_iff.2 ⟨y, List.mem_of_mem_drop hy, e⟩
    rw [h] at this; cases this
  omega
 ·have h3 := h1 a ha
  rcases List.mem_cons.1 hb with rfl | hb
  ·exact h3
  ·have := h2 b hb; omega
theorem setK_sorted {l : List α} (hs : l.Pairwise (fun x y => f x < f y)) {i : Nat} {x y : α} (hx : l[i]? = some x) (h : f y = f x) : (l.set i y).Pairwise (fun x y => f x < f y) := by
 have hm : (l.set i y).map f = l.map f := by
   apply List.ext_getElem?
   intro k
   rw [List.getElem?_map, List.getElem?_map, List.getElem?_set]
   split
   ·rename_i e; subst e
    rw [hx]
    simp [(List.getElem?_eq_some_iff.1 hx).1, h]
   ·rfl
 rw [← List.pairwise_map (f := f) (R := fun a b => a < b)] at hs ⊢
 rw [hm]
 exact hs
end
/-! ### Changes -/
structure Ep where
 o : Int
 n : Int
 deriving DecidableEq, Inhabited
def epC (e : Ep) : List AV := [.int e.o, .int e.n]
structure Chg where
 kind : Int
 lsa : Lsa
 n : Int
 o : Int
def lsa0 : Lsa := ⟨0, 0, []⟩
def chgC (c : Chg) : List AV := [.int c.kind, .int c.lsa.o, .int c.lsa.s, .sl 2 (c.lsa.ls.map linkC), .int c.n, .int c.o]
def bareB (c : Chg) : Bool := c.lsa.o == 0 && (c.lsa.s == 0 && decide (c.lsa.ls.length = 0))
def okC (c : Chg) : Bool :=
 if c.kind = 1 then lsaB c.lsa && (c.n == 0 && c.o == 0)
 else if c.kind = 2 then bareB c && (inr c.n 1 4611686018427387904 && c.o == 0)
 else if c.kind = 3 then bareB c && (inr c.n 1 1073741824 && c.o == 0)
 else if c.kind = 4 then bareB c && (inr c.n 1 1073741824 && inr c.o 1 64)
 else false
def linkBs (x : Link) : BS := be 1 x.t.toNat ++ be 4 x.c.toNat
def lsaBs (l : Lsa) : BS := be 1 l.o.toNat ++ (be 8 l.s.toNat ++ (be 1 l.ls.length ++ l.ls.flatMap linkBs))
def chgBs (c : Chg) : BS := be 1 c.kind.toNat ++ (if c.kind = 1 then lsaBs c.lsa else if c.kind = 2 then be 8 c.n.toNat else if c.kind = 4 then be 1 c.o.toNat ++ be 4 c.n.toNat else be 4 c.n.toNat)
def chgsBs (l : List Chg) : BS := be 1 l.length ++ l.flatMap chgBs
def chgsE (l : List Chg) : Int := if l.length < 1 ∨ 40 < l.length then 1 else if l.all okC then 0 else 1
/-- A number of 64 bits, read as one with a sign. -/
def toI (n : Nat) : Int := if n < 9223372036854775808 then n else (n : Int) - 18446744073709551616
def rdLinks : Nat → RS → List Link × RS
 | 0, s => ([], s)
 | k + 1, s => if s.w then ([], s) else
   let t := s.num 1
   let c := t.2.num 4
   let r := rdLinks k c.2
   (⟨t.1, c.1⟩ :: r.1, r.2)
/-- What an Lsa seems to be. -/
def rdLsaX (s : RS) : Lsa × RS :=
 let o := s.num 1
 let q := o.2.num 8
 let n := q.2.num 1
 let r := rdLinks n.1 n.2
 (⟨o.1, toI q.1, r.1⟩, r.2)
def rdLsaOk (s : RS) : Bool := !(rdLsaX s).2.w && lsaB (rdLsaX s).1
def rdLsa (s : RS) : Lsa := if rdLsaOk s then (rdLsaX s).1 else lsa0
def rdChgX (s : RS) : Chg × RS :=
 let k := s.num 1
 if k.1 = 1 then (⟨k.1, rdLsa k.2, 0, 0⟩, (rdLsaX k.2).2)
 else if k.1 = 2 then (⟨k.1, lsa0, toI (k.2.num 8).1, 0⟩, (k.2.num 8).2)
 else if k.1 = 4 then (⟨k.1, lsa0, ((k.2.num 1).2.num 4).1, (k.2.num 1).1⟩, ((k.2.num 1).2.num 4).2)
 else if k.1 = 3 then (⟨k.1, lsa0, (k.2.num 4).1, 0⟩, (k.2.num 4).2)
 else (⟨k.1, lsa0, 0, 0⟩, k.2)
def rdChgOk (s : RS) : Bool := if (s.num 1).1 = 1 then rdLsaOk (s.num 1).2 else !(rdChgX s).2.w && okC (rdChgX s).1
/-- Changes, one behind the other: those, what is left, and whether each was one. -/
def rdChgs : Nat → RS → List Chg × RS × Bool
 | 0, s => ([], s, true)
 | k + 1, s => if rdChgOk s then
     let r := rdChgs k (rdChgX s).2
     ((rdChgX s).1 :: r.1, r.2)
   else ([], (rdChgX s).2, false)
def getCs (b : BS) : Option (List Chg) :=
 let n := RS.num 1 ⟨b, false⟩
 if n.1 < 1 ∨ 40 < n.1 then none else
 let r := rdChgs n.1 n.2
 if r.2.2 && (!r.2.1.w && decide (r.2.1.b.length = 0)) then some r.1 else none
/-! ### What is kept -/
structure St where
 db : List Lsa
 upto : Int
 boot : Int
 eps : List Ep
def stC (s : St) : List AV := [.sl 3 (s.db.map lsaC), .int s.upto, .int s.boot, .sl 2 (s.eps.map epC)]
def st0 : St := ⟨[], 0, 0, []⟩
def epsB : Int → List Ep → Bool
 | _, [] => true
 | last, e :: t => (decide (last < e.o) && (decide (e.o ≤ 64) && inr e.n 1 1073741824)) && epsB e.o t
def okS (s : St) : Bool := inr s.upto 0 4611686018427387904 && (inr s.boot 0 1073741824 && (lsdbB 0 s.db && epsB 0 s.eps))
def newerB (a b : Lsa) : Bool := a.o == b.o && decide (b.s < a.s)
/-- Puts an Lsa; none: it is old. -/
def putDb (db : List Lsa) (x : Lsa) : Option (List Lsa) :=
 if hasK (·.o) db x.o then
   if newerB x (db.getD (posK (·.o) db x.o) lsa0) then some (db.set (posK (·.o) db x.o) x) else none
 else some (insK (·.o) db x)
def putEp (l : List Ep) (x : Ep) : Option (List Ep) :=
 if hasK (·.o) l x.o then
   if (l.getD (posK (·.o) l x.o) ⟨0, 0⟩).n < x.n then some (l.set (posK (·.o) l x.o) x) else none
 else some (insK (·.o) l x)
def doC (s : St) (c : Chg) : Option St :=
 if c.kind = 1 then (putDb s.db c.lsa).map fun d => { s with db := d }
 else if c.kind = 2 then if s.upto < c.n then some { s with upto := c.n } else none
 else if c.kind = 3 then if s.boot < c.n then some { s with boot := c.n } else none
 else (putEp s.eps ⟨c.o, c.n⟩).map fun d => { s with eps := d }
def doCs : St → List Chg → Option St
 | s, [] => some s
 | s, c :: t => match doC s c with
   | none => none
   | some s' => doCs s' t
def applyE (s : St) (l : List Chg) : Int := if !okS s || l.any (fun c => !okC c) then 1 else match doCs s l with
 | none => 10
 | some _ => 0
def applyS (s : St) (l : List Chg) : St := if applyE s l = 0 then (doCs s l).getD st0 else st0
def epBs (e : Ep) : BS := be 1 e.o.toNat ++ be 4 e.n.toNat
def stBs (s : St) : BS := be 8 s.upto.toNat ++ (be 4 s.boot.toNat ++ (be 1 s.db.length ++ (s.db.flatMap lsaBs ++ (be 1 s.eps.length ++ s.eps.flatMap epBs))))
def rdDb : Nat → RS → List Lsa × RS × Bool
 | 0, s => ([], s, true)
 | k + 1, s => if rdLsaOk s then
     let r := rdDb k (rdLsaX s).2
     ((rdLsaX s).1 :: r.1, r.2)
   else ([], (rdLsaX s).2, false)
def rdEps : Nat → RS → List Ep × RS
 | 0, s => ([], s)
 | k + 1, s =>
   let o := s.num 1
   let n := o.2.num 4
   let r := rdEps k n.2
   (⟨o.1, n.1⟩ :: r.1, r.2)
def getS (b : BS) : Option St :=
 let u := RS.num 8 ⟨b, false⟩
 let t := u.2.num 4
 let n := t.2.num 1
 let d := rdDb n.1 n.2
 if d.2.2 then
   let m := d.2.1.num 1
   let e := rdEps m.1 m.2
   let s : St := ⟨d.1, toI u.1, t.1, e.1⟩
   if (!e.2.w && decide (e.2.b.length = 0)) && okS s then some s else none
 else none
end A
end Go.Proofs.YthkgdhamnpiagaaGreat
namespace Go.Proofs.YthkgdhamnpiagaaGreat
namespace A
theorem el_53 : elemOf Tryz.prog 53 = some (134, 2, 16) := by kernel_rfl
theorem es_53 : elemSize Tryz.prog 53 = some 2 := by kernel_rfl
theorem fd_134_0 : fieldOf Tryz.prog 134 0 = some (0, 1, false) := by kernel_rfl
theorem fd_134_1 : fieldOf Tryz.prog 134 1 = some (1, 1, false) := by kernel_rfl
theorem fd_55_0 : fieldOf Tryz.prog 55 0 = some (0, 1, false) := by kernel_rfl
theorem fd_55_1 : fieldOf Tryz.prog 55 1 = some (1, 1, false) := by kernel_rfl
theorem fd_55_2 : fieldOf Tryz.prog 55 2 = some (2, 1, false) := by kernel_rfl
theorem sl_53 : isSl Tryz.prog 53 = true := by kernel_rfl
theorem ty_134 : tyOf Tryz.prog 134 = some (2, true) := by kernel_rfl
theorem ty_53 : tyOf Tryz.prog 53 = some (1, false) := by kernel_rfl
theorem ty_55 : tyOf Tryz.prog 55 = some (3, true) := by kernel_rfl
theorem us_53 : Tryz.prog.underlying 53 = some (.slice 134) := by kernel_rfl
theorem ze_134 : zeroOf Tryz.prog 134 = some (.agg #[.int .i64 0, .int .i64 0]) := by kernel_rfl
theorem ze_55 : zeroOf Tryz.prog 55 = some (.agg #[.int .i64 0, .int .i64 0, .slice none 0 0]) := by kernel_rfl
theorem lsaB_iff {l : Lsa} : lsaB l = true ↔ (1 ≤ l.o ∧ l.o ≤ 64) ∧ 1 ≤ l.s ∧ l.s ≤ 4611686018427387904 ∧ l.ls.length ≤ 16 ∧ linksB l.o 0 l.ls = true := by
 simp only [lsaB, nodeB, Bool.and_eq_true, decide_eq_true_eq]
 constructor
 ·rintro ⟨⟨⟨⟨h1, h2⟩, h3⟩, h4⟩, h5⟩; exact ⟨h1, h2, h3, h4, h5⟩
 ·rintro ⟨h1, h2, h3, h4, h5⟩; exact ⟨⟨⟨⟨h1, h2⟩, h3⟩, h4⟩, h5⟩
theorem linksB_mem {o : Int} : ∀ {l : List Link} {last : Int}, linksB o last l = true → ∀ x ∈ l, 1 ≤ x.t ∧ x.t ≤ 64 ∧ 1 ≤ x.c ∧ x.c ≤ 1073741824
 | [], _, _, x, hx => by simp at hx
 | y :: l, last, h, x, hx => by
   simp only [linksB, nodeB, Bool.and_eq_true, decide_eq_true_eq] at h
   rcases List.mem_cons.1 hx with rfl | hx
   ·omega
   ·exact linksB_mem h.2 x hx
/- lsa.node -/
set_option maxRecDepth 100000 in
set_option maxHeartbeats 400000 in
theorem lsa_node {n : Int} : Triple Tryz.prog 277 [.int n] [] (Is (.v (.bool (nodeB n))) []) := by
 refine triple_of Tryz.func277 rfl (by kernel_rfl) rfl (by simp) ?_
 refine aSeq ?_
 refine aReg ?_
 refine sp pMa ?_
 refine oNil ?_
 refine aSeq ?_
 refine aReg ?_
 refine sp pM ?_
 refine sp pB ?_
 refine sp pM ?_
 refine oSplitDec 5 rfl (fun c5 => ?_) (fun c5 => ?_)
 ·skip
  refine gp pM ?_
  refine gp pB ?_
  refine sp pK ?_
  refine sp pMa ?_
  refine oNil ?_
  refine aRet ?_
  refine finIs rfl ?_
  simp [retOf, nodeB]
  omega
 ·skip
  refine gf ?_
  refine gf ?_
  refine sp pK ?_
  refine sp pMa ?_
  refine oNil ?_
  refine aRet ?_
  refine finIs rfl ?_
  simp [retOf, nodeB]
  omega
/- lsa.Check -/
set_option maxRecDepth 100000 in
set_option maxHeartbeats 2000000 in
theorem lsa_Check {l : Lsa} : Triple Tryz.prog 191 [.agg (lsaC l)] [] (Is (.int (if lsaB l then 0 else 1)) []) := by
 refine triple_of Tryz.func191 rfl (by kernel_rfl) rfl (by simp) ?_
 refine aSeq ?_
 refine aReg ?_
 refine sq ?_
 refine qBox rfl rfl (by decide) rfl rfl (fun b1 => ?_)
 refine sp pMa ?_
 refine oNil ?_
 refine aSeq ?_
 refine aSeq ?_
 refine aReg ?_
 refine sp (pFb fd_55_0) ?_
 refine sr (rB1 ty_3) ?_
 refine sq ?_
 refine cv rfl rfl rfl (lents_refl _) lsa_node ?_
 refine sp pNo ?_
 refine sp pM ?_
 refine oSplitNot 10 rfl (fun c10 => ?_) (fun c10 => ?_)
 ·skip
  refine gf ?_
  refine gf ?_
  refine gf ?_
  refine sp pK ?_
  refine sp pM ?_
  refine gf ?_
  refine gf ?_
  refine gf ?_
  refine sp pK ?_
  refine sp pM ?_
  refine gf ?_
  refine gf ?_
  refine gf ?_
  refine gf ?_
  refine sp pK ?_
  refine oNil ?_
  refine aCondT rfl ?_
  refine aSeq ?_
  refine aReg ?_
  refine sp pMa ?_
  refine oNil ?_
  refine aRet ?_
  refine finIs rfl ?_
  have hB : lsaB l = false := by
    cases hB : lsaB l with
    | false => rfl
    | true => have hB' := lsaB_iff.1 hB; simp_all [nodeB]; try omega
  rw [hB]
  rfl
 ·skip
  refine gp (pFb fd_55_1) ?_
  refine gr (rB1 ty_3) ?_
  refine gp pB ?_
  refine sp pK ?_
  refine sp pM ?_
  refine oSplitDec 15 rfl (fun c15 => ?_) (fun c15 => ?_)
  ·skip
   refine gf ?_
   refine gf ?_
   refine gf ?_
   refine sp pK ?_
   refine sp pM ?_
   refine gf ?_
   refine gf ?_
   refine gf ?_
   refine gf ?_
   refine sp pK ?_
   refine oNil ?_
   refine aCondT rfl ?_
   refine aSeq ?_
   refine aReg ?_
   refine sp pMa ?_
   refine oNil ?_
   refine aRet ?_
   refine finIs rfl ?_
   have hB : lsaB l = false := by
     cases hB : lsaB l with
     | false => rfl
     | true => have hB' := lsaB_iff.1 hB; simp_all [nodeB]; try omega
   rw [hB]
   rfl
  ·skip
   refine gp (pFb fd_55_1) ?_
   refine gr (rB1 ty_3) ?_
   refine gp pB ?_
   refine sp pK ?_
   refine sp pM ?_
   refine oSplitDec 20 rfl (fun c20 => ?_) (fun c20 => ?_)
   ·skip
    refine gf ?_
    refine gf ?_
    refine gf ?_
    refine gf ?_
    refine sp pK ?_
    refine oNil ?_
    refine aCondT rfl ?_
    refine aSeq ?_
    refine aReg ?_
    refine sp pMa ?_
    refine oNil ?_
    refine aRet ?_
    refine finIs rfl ?_
    have hB : lsaB l = false := by
      cases hB : lsaB l with
      | false => rfl
      | true => have hB' := lsaB_iff.1 hB; simp_all [nodeB]; try omega
    rw [hB]
    rfl
   ·skip
    refine gp (pFb fd_55_2) ?_
    refine gr (rB1 ty_53) ?_
    refine gp (by first | exact pLm sl_53 | exact pLs sl_53 | exact pLv sl_53) ?_
    refine gp pB ?_
    refine sp pK ?_
    refine oNil ?_
    refine aCondDec rfl (fun c25 => ?_) (fun c25 => ?_)
    ·skip
     refine aSeq ?_
     refine aReg ?_
     refine sp pMa ?_
     refine oNil ?_
     refine aRet ?_
     refine finIs rfl ?_
     have hB : lsaB l = false := by
       cases hB : lsaB l with
       | false => rfl
       | true => have hB' := lsaB_iff.1 hB; simp_all [nodeB]; try omega
     rw [hB]
     rfl
    ·skip
     refine aSkip ?_
     refine aSeq ?_
     refine aReg ?_
     refine sp pMa ?_
     refine oNil ?_
     refine aSeq ?_
     refine aSeq ?_
     have hlen : l.ls.length ≤ 16 := by simp_all; try omega
     refine aReg ?_
     refine sp (pFb fd_55_2) ?_
     refine sr (rB1 ty_53) ?_
     refine sp (by first | exact pLm sl_53 | exact pLs sl_53 | exact pLv sl_53) ?_
     refine sp pM ?_
     refine oNil ?_
     refine aBlock ?_
     refine loopF (α := Nat × Int) (kept := [(1, _), (27, _), (28, _)]) (fun (i, last) => i ≤ l.ls.length ∧ linksB l.o 0 l.ls = linksB l.o last (l.ls.drop i)) (fun (i, last) => [(29, .int i), (3, .int last)]) (fun (i, last) => []) (fun (i, last) => l.ls.length - i) (0, 0) ?_ ⟨gInt rfl (by first | rfl | omega | simp), gInt rfl (by first | rfl | omega | simp), rfl, rfl, rfl, trivial⟩ (by repeat constructor) ?_
     ·skip
      exact ⟨by omega, rfl⟩
     ·rintro ⟨i, last⟩ ⟨hi, hv⟩
      refine aSeq ?_
      refine aReg ?_
      refine sp pB ?_
      refine oNil ?_
      refine aSeq ?_
      refine aCondDec rfl (fun c30 => ?_) (fun c30 => ?_)
      ·skip
       refine aSkip ?_
       refine aSeq ?_
       refine aBlock ?_
       refine aSeq ?_
       obtain ⟨x, hx⟩ : ∃ z, l.ls[i]? = some z := ⟨_, List.getElem?_eq_getElem (by omega)⟩
       refine aReg ?_
       first | refine sp (pIx es_53) ?_ | (refine obtSN 27 29 rfl rfl (by omega) (fun x31 hx31 => ?_); refine sp (pIs es_53 hx31) ?_) | (refine obtS 27 29 rfl rfl (by omega) (by omega) (fun x31 hx31 => ?_); refine sp (pIs es_53 hx31) ?_) | refine sp (pIo es_53) ?_
       refine sr (by first | exact rSW ty_134 rfl | exact rSA ty_134 | exact rBWa ty_134 | exact rBW ty_134 | exact rBA ty_134 | exact rArA ty_134 (fun _ => rfl)) ?_
       refine sq ?_
       refine qAlloc rfl rfl (by decide) ze_134 rfl (fun b5 => ?_)
       refine sa ?_
       refine oStW rfl rfl rfl rfl (by repeat constructor) ty_134 ?_
       refine oNil ?_
       refine aSeq ?_
       refine aSeq ?_
       refine aReg ?_
       refine sp (pFb fd_134_0) ?_
       refine sr (rB1 ty_3) ?_
       refine sq ?_
       refine cv rfl rfl rfl (lents_refl _) lsa_node ?_
       refine sp pNo ?_
       refine sp pM ?_
       refine oSplitNot 37 rfl (fun c37 => ?_) (fun c37 => ?_)
       ·skip
        refine gf ?_
        refine gf ?_
        refine gf ?_
        refine gf ?_
        refine sp pK ?_
        refine sp pM ?_
        refine gf ?_
        refine gf ?_
        refine gf ?_
        refine gf ?_
        refine gf ?_
        refine sp pK ?_
        refine sp pM ?_
        refine gf ?_
        refine gf ?_
        refine gf ?_
        refine sp pK ?_
        refine sp pM ?_
        refine gf ?_
        refine gf ?_
        refine gf ?_
        refine sp pK ?_
        refine oNil ?_
        refine aCondT rfl ?_
        refine aSeq ?_
        refine aReg ?_
        refine sp pMa ?_
        refine oNil ?_
        refine aRet ?_
        refine finIs rfl ?_
        have hs := links_step (o := l.o) (last := last) hx
        have hB : lsaB l = false := by
          cases hB : lsaB l with
          | false => rfl
          | true => have hB' := lsaB_iff.1 hB; rw [hv, hs] at hB'; first | (simp_all; done) | (simp_all; omega) | (simp_all [nodeB]; done) | (simp_all [nodeB]; omega)
        rw [hB]
        rfl
       ·skip
        refine gp (pFb fd_134_0) ?_
        refine gr (rB1 ty_3) ?_
        refine gp pM ?_
        refine gp pB ?_
        refine sp pK ?_
        refine sp pM ?_
        refine oSplitDec 43 rfl (fun c43 => ?_) (fun c43 => ?_)
        ·skip
         refine gf ?_
         refine gf ?_
         refine gf ?_
         refine gf ?_
         refine gf ?_
         refine sp pK ?_
         refine sp pM ?_
         refine gf ?_
         refine gf ?_
         refine gf ?_
         refine sp pK ?_
         refine sp pM ?_
         refine gf ?_
         refine gf ?_
         refine gf ?_
         refine sp pK ?_
         refine oNil ?_
         refine aCondT rfl ?_
         refine aSeq ?_
         refine aReg ?_
         refine sp pMa ?_
         refine oNil ?_
         refine aRet ?_
         refine finIs rfl ?_
         have hs := links_step (o := l.o) (last := last) hx
         have hB : lsaB l = false := by
           cases hB : lsaB l with
           | false => rfl
           | true => have hB' := lsaB_iff.1 hB; rw [hv, hs] at hB'; first | (simp_all; done) | (simp_all; omega) | (simp_all [nodeB]; done) | (simp_all [nodeB]; omega)
         rw [hB]
         rfl
        ·skip
         refine gp (pFb fd_134_0) ?_
         refine gr (rB1 ty_3) ?_
         refine gp (pFb fd_55_0) ?_
         refine gr (rB1 ty_3) ?_
         refine gp pB ?_
         refine sp pK ?_
         refine sp pM ?_
         refine oSplitEq 50 rfl (fun c50 => ?_) (fun c50 => ?_)
         ·skip
          refine gf ?_
          refine gf ?_
          refine gf ?_
          refine sp pK ?_
          refine sp pM ?_
          refine gf ?_
          refine gf ?_
          refine gf ?_
          refine sp pK ?_
          refine oNil ?_
          refine aCondT rfl ?_
          refine aSeq ?_
          refine aReg ?_
          refine sp pMa ?_
          refine oNil ?_
          refine aRet ?_
          refine finIs rfl ?_
          have hs := links_step (o := l.o) (last := last) hx
          have hB : lsaB l = false := by
            cases hB : lsaB l with
            | false => rfl
            | true => have hB' := lsaB_iff.1 hB; rw [hv, hs] at hB'; first | (simp_all; done) | (simp_all; omega) | (simp_all [nodeB]; done) | (simp_all [nodeB]; omega)
          rw [hB]
          rfl
         ·skip
          refine gp (pFb fd_134_1) ?_
          refine gr (rB1 ty_3) ?_
          refine gp pB ?_
          refine sp pK ?_
          refine sp pM ?_
          refine oSplitDec 55 rfl (fun c55 => ?_) (fun c55 => ?_)
          ·skip
           refine gf ?_
           refine gf ?_
           refine gf ?_
           refine sp pK ?_
           refine oNil ?_
           refine aCondT rfl ?_
           refine aSeq ?_
           refine aReg ?_
           refine sp pMa ?_
           refine oNil ?_
           refine aRet ?_
           refine finIs rfl ?_
           have hs := links_step (o := l.o) (last := last) hx
           have hB : lsaB l = false := by
             cases hB : lsaB l with
             | false => rfl
             | true => have hB' := lsaB_iff.1 hB; rw [hv, hs] at hB'; first | (simp_all; done) | (simp_all; omega) | (simp_all [nodeB]; done) | (simp_all [nodeB]; omega)
           rw [hB]
           rfl
          ·skip
           refine gp (pFb fd_134_1) ?_
           refine gr (rB1 ty_3) ?_
           refine gp pB ?_
           refine sp pK ?_
           refine oNil ?_
           refine aCondDec rfl (fun c59 => ?_) (fun c59 => ?_)
           ·skip
            refine aSeq ?_
            refine aReg ?_
            refine sp pMa ?_
            refine oNil ?_
            refine aRet ?_
            refine finIs rfl ?_
            have hs := links_step (o := l.o) (last := last) hx
            have hB : lsaB l = false := by
              cases hB : lsaB l with
              | false => rfl
              | true => have hB' := lsaB_iff.1 hB; rw [hv, hs] at hB'; first | (simp_all; done) | (simp_all; omega) | (simp_all [nodeB]; done) | (simp_all [nodeB]; omega)
            rw [hB]
            rfl
           ·skip
            refine aSkip ?_
            refine aReg ?_
            refine sp (pFb fd_134_0) ?_
            refine sr (rB1 ty_3) ?_
            refine sp pMa ?_
            refine oNil ?_
            refine aReg ?_
            refine sp pAd ?_
            refine sp pM ?_
            refine oNil ?_
            refine ⟨(i + 1, x.t), ?_, by (try dsimp only); omega, ⟨gInt rfl (by first | rfl | omega | simp), gInt rfl (by first | rfl | omega | simp), rfl, rfl, rfl, trivial⟩, _, (by repeat constructor)⟩
            have hs := links_step (o := l.o) (last := last) hx
            refine ⟨by omega, ?_⟩
            rw [hv, hs]
            simp_all [nodeB]
            all_goals (intros; omega)
      ·skip
       refine aExit rfl ?_
       refine aSeq ?_
       refine aReg ?_
       refine sp pMa ?_
       refine oNil ?_
       refine aRet ?_
       refine finIs rfl ?_
       have hB : lsaB l = true := by
         rw [List.drop_of_length_le (by omega)] at hv
         rw [lsaB_iff]
         simp_all [linksB, nodeB]
         try omega
       rw [hB]
       rfl
/- lsa.Newer -/
set_option maxRecDepth 100000 in
set_option maxHeartbeats 400000 in
theorem lsa_Newer {a b : Lsa} : Triple Tryz.prog 289 [.agg (lsaC a), .agg (lsaC b)] [] (Is (.v (.bool (newerB a b))) []) := by
 refine triple_of Tryz.func289 rfl (by kernel_rfl) rfl (by simp) ?_
 refine aSeq ?_
 refine aReg ?_
 refine sq ?_
 refine qBox rfl rfl (by decide) rfl rfl (fun b2 => ?_)
 refine sq ?_
 refine qBox rfl rfl (by decide) rfl rfl (fun b3 => ?_)
 refine sp pMa ?_
 refine oNil ?_
 refine aSeq ?_
 refine aReg ?_
 refine sp (pFb fd_55_0) ?_
 refine sr (rB1 ty_3) ?_
 refine sp (pFb fd_55_0) ?_
 refine sr (rB1 ty_3) ?_
 refine sp pB ?_
 refine sp pM ?_
 refine oSplitEq 10 rfl (fun c10 => ?_) (fun c10 => ?_)
 ·skip
  refine gp (pFb fd_55_1) ?_
  refine gr (rB1 ty_3) ?_
  refine gp (pFb fd_55_1) ?_
  refine gr (rB1 ty_3) ?_
  refine gp pB ?_
  refine sp pK ?_
  refine sp pMa ?_
  refine oNil ?_
  refine aRet ?_
  refine finIs rfl ?_
  simp_all [retOf, newerB]
 ·skip
  refine gf ?_
  refine gf ?_
  refine gf ?_
  refine gf ?_
  refine gf ?_
  refine sp pK ?_
  refine sp pMa ?_
  refine oNil ?_
  refine aRet ?_
  refine finIs rfl ?_
  simp_all [retOf, newerB]
/- api.Link] -/
set_option maxRecDepth 100000 in
set_option maxHeartbeats 400000 in
theorem clone_Link {l : List Link} (hl : l.length ≤ 1000000 := by omega) : Triple Tryz.prog 261 [.sl 2 (l.map linkC)] [] (Own 134 2 (l.map linkC) []) := by
 refine triple_of Tryz.func261 rfl (by kernel_rfl) rfl (by simp) ?_
 refine aSeq ?_
 refine aReg ?_
 refine sp pMa ?_
 refine oNil ?_
 refine aSeq ?_
 refine aSeq ?_
 refine aReg ?_
 refine sp pM ?_
 refine sa ?_
 refine oSlNil rfl (.inl rfl) rfl sl_53 rfl (by decide) (fun q4 hq4 => ?_)
 refine oNil ?_
 refine aCond rfl (fun c4 => ?_) (fun c4 => ?_)
 ·skip
  refine aSeq ?_
  refine aWeak (weak_nil 134 2) ?_
  refine aReg ?_
  refine sp pMa ?_
  refine oNil ?_
  refine aRet ?_
  have he : l = [] := by
    cases l with
    | nil => rfl
    | cons x l => have := hq4 (by simp); simp_all
  subst he
  exact ⟨_, _, _, rfl, .cons .hd .nil, none, 0, rfl, rfl⟩
 ·skip
  refine aSkip ?_
  refine aSeq ?_
  refine aReg ?_
  refine sq ?_
  refine qLit (l := []) rfl rfl (by decide) us_53 ty_134 ze_134 rfl (by decide) (by decide) rfl rfl rfl (fun b5 => ?_)
  refine sp pM ?_
  refine sa ?_
  first | refine oAppT (out := []) _ rfl rfl (by repeat constructor) (.inl rfl) el_53 sl_53 (fun g7 k7 => ?_) | refine oAppT (out := []) _ rfl rfl (by repeat constructor) (srcOwn rfl (by repeat constructor) (by first | rfl | simp)) el_53 sl_53 (fun g7 k7 => ?_)
  refine sp pMa ?_
  refine oNil ?_
  refine aRet ?_
  refine finOwn rfl ?_
  rfl
/- lsa.Copy -/
set_option maxRecDepth 100000 in
set_option maxHeartbeats 400000 in
theorem lsa_Copy {l : Lsa} (hl : l.ls.length ≤ 1000000) : Triple Tryz.prog 166 [.agg (lsaC l)] [] (Is (.agg (lsaC l)) []) := by
 refine triple_ofR Tryz.func166 rfl (by kernel_rfl) rfl (by simp) ?_
 refine aSeq ?_
 refine aReg ?_
 refine sq ?_
 refine qBox rfl rfl (by decide) rfl rfl (fun b1 => ?_)
 refine sq ?_
 refine qAlloc rfl rfl (by decide) ze_55 rfl (fun b2 => ?_)
 refine oNil ?_
 refine aSeq ?_
 refine aReg ?_
 refine sp (pFb fd_55_2) ?_
 refine sr (rB1 ty_53) ?_
 refine sa ?_
 first | refine coM rfl rfl rfl (clone_Link (l := l.ls) hl) (fun g5 k5 => ?_) | refine co rfl rfl rfl (clone_Link (l := l.ls) hl) (fun g5 k5 => ?_)
 refine oWeak (weak_settle (k := 5) rfl (by repeat constructor) (by simp)) ?_
 refine sp (pFb fd_55_2) ?_
 refine sa ?_
 refine oStB rfl rfl rfl rfl (by repeat constructor) ty_53 rfl (Nat.le_of_ble_eq_true rfl) rfl ?_
 refine oNil ?_
 refine aSeq ?_
 refine aReg ?_
 refine sr (by first | exact rBWa ty_55 | exact rBW ty_55 | exact rBA ty_55) ?_
 refine sa ?_
 refine oStW rfl rfl rfl rfl (by repeat constructor) ty_55 ?_
 refine oNil ?_
 refine aRet ?_
 refine finRIs (l := [.agg (lsaC l)]) (.cons (.cellA rfl (by repeat (first | exact List.mem_cons_self | apply List.mem_cons_of_mem)) ty_55) .nil) rfl
def lsaP (l : Lsa) (i : Nat) : BS := be 1 l.o.toNat ++ (be 8 l.s.toNat ++ (be 1 l.ls.length ++ (l.ls.take i).flatMap linkBs))
theorem lsaP_all (l : Lsa) : lsaP l l.ls.length = lsaBs l := by unfold lsaP lsaBs; rw [List.take_length]
theorem lsaP_step {l : Lsa} {i : Nat} {x : Link} (h : l.ls[i]? = some x) : lsaP l (i + 1) = lsaP l i ++ be 1 x.t.toNat ++ be 4 x.c.toNat := by
 unfold lsaP
 rw [take_step h, List.flatMap_append]
 simp [linkBs, List.append_assoc]
theorem links_len : ∀ (l : List Link), (l.flatMap linkBs).length = 5 * l.length
 | [] => rfl
 | x :: l => by rw [List.flatMap_cons, List.length_append, links_len l]; simp [linkBs, be_len]; omega
theorem lsaP_len (l : Lsa) (i : Nat) : (lsaP l i).length = 10 + 5 * (min i l.ls.length) := by
 unfold lsaP
 simp only [List.length_append, be_len, links_len, List.length_take]
 omega
theorem lsaBs_len (l : Lsa) : (lsaBs l).length = 10 + 5 * l.ls.length := by rw [← lsaP_all, lsaP_len, Nat.min_self]
/- lsa.Put -/
set_option maxRecDepth 100000 in
set_option maxHeartbeats 2000000 in
theorem lsa_Put {b : BS} {l : Lsa} (h : lsaB l = true) (hb : b.length ≤ 900000) : Triple Tryz.prog 92 [.sl 1 (b.map by1), .agg (lsaC l)] [] (Is (.sl 1 ((b ++ lsaBs l).map by1)) []) := by
 obtain ⟨⟨q1, q2⟩, q3, q4, q5, q6⟩ := lsaB_iff.1 h
 refine triple_of Tryz.func92 rfl (by kernel_rfl) rfl (by simp) ?_
 refine aSeq ?_
 refine aReg ?_
 refine sq ?_
 refine qBox rfl rfl (by decide) rfl rfl (fun b3 => ?_)
 refine sp pMa ?_
 refine oNil ?_
 refine aSeq ?_
 refine aSeq ?_
 refine aReg ?_
 refine sr (by first | exact rBWa ty_55 | exact rBW ty_55 | exact rBA ty_55) ?_
 refine sq ?_
 refine ci rfl rfl rfl (lsa_Check (l := l)) ?_
 rw [if_pos h]
 refine sp pB ?_
 refine oNil ?_
 refine aCondF rfl ?_
 refine aSkip ?_
 refine aSeq ?_
 refine aReg ?_
 refine sp pM ?_
 refine sp (pFb fd_55_0) ?_
 refine sr (rB1 ty_3) ?_
 refine sp (pConv (n' := ((l.o.toNat : Nat) : Int)) rfl rfl ik_3 ik_172 (by rw [Int.toNat_of_nonneg (by omega)]; exact wrap_u64 (by omega) (by omega))) ?_
 refine sq ?_
 refine ci rfl rfl rfl (oct_Num_s (b := b) (w := 1) (n := l.o.toNat) (by omega) (by decide) (by decide)) ?_
 refine sp pMa ?_
 refine oNil ?_
 refine aSeq ?_
 refine aReg ?_
 refine sp pM ?_
 refine sp (pFb fd_55_1) ?_
 refine sr (rB1 ty_3) ?_
 refine sp (pConv (n' := ((l.s.toNat : Nat) : Int)) rfl rfl ik_3 ik_172 (by rw [Int.toNat_of_nonneg (by omega)]; exact wrap_u64 (by omega) (by omega))) ?_
 refine sq ?_
 refine ci rfl rfl rfl (oct_Num_s (b := b ++ be 1 l.o.toNat) (w := 8) (n := l.s.toNat) (by rw [List.length_append, be_len]; omega) (by decide) (by decide)) ?_
 refine sp pMa ?_
 refine oNil ?_
 refine aSeq ?_
 refine aReg ?_
 refine sp pM ?_
 refine sp (pFb fd_55_2) ?_
 refine sr (rB1 ty_53) ?_
 refine sp (by first | exact pLm sl_53 | exact pLs sl_53 | exact pLv sl_53) ?_
 refine sp (by first | exact pCvK ik_3 ik_172 | exact pConv rfl rfl ik_3 ik_172 rfl) ?_
 refine sq ?_
 refine ci rfl rfl rfl (oct_Num_s (b := b ++ be 1 l.o.toNat ++ be 8 l.s.toNat) (w := 1) (n := l.ls.length) (by rw [List.length_append, List.length_append, be_len, be_len]; omega) (by decide) (by decide)) ?_
 refine sp pMa ?_
 refine oNil ?_
 refine aSeq ?_
 refine aSeq ?_
 refine aReg ?_
 refine sp (pFb fd_55_2) ?_
 refine sr (rB1 ty_53) ?_
 refine sp (by first | exact pLm sl_53 | exact pLs sl_53 | exact pLv sl_53) ?_
 refine sp pM ?_
 refine oNil ?_
 refine aBlock ?_
 refine loopF (α := Nat) (kept := [(29, _), (30, _)]) (fun i => i ≤ l.ls.length) (fun i => [(31, .int i), (0, .sl 1 ((b ++ lsaP l i).map by1))]) (fun i => []) (fun i => l.ls.length - i) 0 ?_ ⟨gInt rfl (by first | rfl | omega | simp), (by first | (rw [lsaP_step hx]; simp only [← List.append_assoc]; rfl) | (unfold lsaP; simp only [List.take_zero, List.flatMap_nil, List.append_nil, ← List.append_assoc]; rfl) | rfl), rfl, rfl, trivial⟩ (by repeat constructor) ?_
 ·skip
  omega
 ·rintro i hi
  refine aSeq ?_
  refine aReg ?_
  refine sp pB ?_
  refine oNil ?_
  refine aSeq ?_
  refine aCondDec rfl (fun c32 => ?_) (fun c32 => ?_)
  ·skip
   refine aSkip ?_
   refine aSeq ?_
   refine aBlock ?_
   refine aSeq ?_
   obtain ⟨x, hx⟩ : ∃ z, l.ls[i]? = some z := ⟨_, List.getElem?_eq_getElem (by omega)⟩
   have hxr := linksB_mem q6 x (List.mem_of_getElem? hx)
   refine aReg ?_
   first | refine sp (pIx es_53) ?_ | (refine obtSN 29 31 rfl rfl (by omega) (fun x33 hx33 => ?_); refine sp (pIs es_53 hx33) ?_) | (refine obtS 29 31 rfl rfl (by omega) (by omega) (fun x33 hx33 => ?_); refine sp (pIs es_53 hx33) ?_) | refine sp (pIo es_53) ?_
   refine sr (by first | exact rSW ty_134 rfl | exact rSA ty_134 | exact rBWa ty_134 | exact rBW ty_134 | exact rBA ty_134 | exact rArA ty_134 (fun _ => rfl)) ?_
   refine sq ?_
   refine qAlloc rfl rfl (by decide) ze_134 rfl (fun b6 => ?_)
   refine sa ?_
   refine oStW rfl rfl rfl rfl (by repeat constructor) ty_134 ?_
   refine oNil ?_
   refine aSeq ?_
   refine aReg ?_
   refine sp pM ?_
   refine sp (pFb fd_134_0) ?_
   refine sr (rB1 ty_3) ?_
   refine sp (pConv (n' := ((x.t.toNat : Nat) : Int)) rfl rfl ik_3 ik_172 (by rw [Int.toNat_of_nonneg (by omega)]; exact wrap_u64 (by omega) (by omega))) ?_
   refine sq ?_
   refine ci rfl rfl rfl (oct_Num_s (b := b ++ lsaP l i) (w := 1) (n := x.t.toNat) (by rw [List.length_append, lsaP_len]; omega) (by decide) (by decide)) ?_
   refine sp pMa ?_
   refine oNil ?_
   refine aReg ?_
   refine sp pM ?_
   refine sp (pFb fd_134_1) ?_
   refine sr (rB1 ty_3) ?_
   refine sp (pConv (n' := ((x.c.toNat : Nat) : Int)) rfl rfl ik_3 ik_172 (by rw [Int.toNat_of_nonneg (by omega)]; exact wrap_u64 (by omega) (by omega))) ?_
   refine sq ?_
   refine ci rfl rfl rfl (oct_Num_s (b := b ++ lsaP l i ++ be 1 x.t.toNat) (w := 4) (n := x.c.toNat) (by rw [List.length_append, List.length_append, lsaP_len, be_len]; omega) (by decide) (by decide)) ?_
   refine sp pMa ?_
   refine oNil ?_
   refine aReg ?_
   refine sp pAd ?_
   refine sp pM ?_
   refine oNil ?_
   refine ⟨i + 1, ?_, by (try dsimp only); omega, ⟨gInt rfl (by first | rfl | omega | simp), (by first | (rw [lsaP_step hx]; simp only [← List.append_assoc]; rfl) | (unfold lsaP; simp only [List.take_zero, List.flatMap_nil, List.append_nil, ← List.append_assoc]; rfl) | rfl), rfl, rfl, trivial⟩, _, (by repeat constructor)⟩
   omega
  ·skip
   refine aExit rfl ?_
   refine aSeq ?_
   refine aReg ?_
   refine sp pM ?_
   refine sp pMa ?_
   refine oNil ?_
   refine aRet ?_
   refine finIs rfl ?_
   obtain rfl : i = l.ls.length := by omega
   rw [lsaP_all]
   rfl
end A
end Go.Proofs.YthkgdhamnpiagaaGreat
namespace Go.Proofs.YthkgdhamnpiagaaGreat
namespace A
variable {P : Program} {N : Nat} {env : Env} {h : List HA} {K : Cont} {X : List (Nat × Cont)} {Rt : Cont}
theorem weak_settleB {b j n c e sz : Nat} {g : Option Nat} {es : List (List AV)} {cs : List AV} {h' : List HA} (ht : Tk h [.box b cs, .sl g c e sz es] h') (hj : cs[j]? = some (.v (slV g n c))) (hn : n = es.length) : Weak N env h env (.box b (cs.set j (.sl sz es)) :: h') := fun F a w s => by
 subst hn
 have hp : h.Perm (.box b cs :: .sl g c e sz es :: h') := ht.perm
 have r1 := s.r.perm hp
 have hr := r1.rep (.sl g c e sz es) (by simp)
 have hF' : ∀ b, F b → (F b ∨ g = some b) := fun b hb => .inl hb
 have hgo : ∀ b, g = some b → b ∈ (HA.sl g c e sz es).own := fun b hb => by subst hb; simp [HA.own]
 have hnd := r1.nd
 have hown : (owns (HA.box b cs :: HA.sl g c e sz es :: h')).Perm ((HA.sl g c e sz es).own ++ owns (HA.box b cs :: h')) := by
   simp only [owns_cons]
   rw [← List.append_assoc, ← List.append_assoc]
   exact List.perm_append_comm.append_right _
 have hnd2 := (hown.nodup_iff).1 hnd
 refine ⟨fun b => F b ∨ g = some b, ⟨⟨fun x hx => ?_, (List.nodup_append.1 hnd2).2.1, fun b' hb => r1.lt b' (hown.mem_iff.2 (List.mem_append_right _ hb)), fun b' hb => ?_⟩, s.size, fun j av hj => (s.env j av hj).mono hF' (fun _ _ => rfl)⟩, ⟨rfl, rfl, rfl, Nat.le_refl _, fun _ _ _ => rfl, fun b' hb => .inl ((owns_perm hp).mem_iff.2 (hown.mem_iff.2 (List.mem_append_right _ hb))), hF', fun b' hb => hb.imp id (fun e => .inl ((owns_perm hp).mem_iff.2 (hown.mem_iff.2 (List.mem_append_left _ (hgo b' e))))), Nat.le_refl _⟩⟩
 ·rcases List.mem_cons.1 hx with rfl | hx
  ·obtain ⟨arr, ty, h1, h2, h3, h4⟩ := r1.rep (.box b cs) (by simp)
   refine ⟨arr, ty, h1, by rw [List.length_set]; exact h2, h3, fun i av x hi hx => ?_⟩
   by_cases hij : j = i
   ·subst hij
    rw [List.getElem?_set_self (List.getElem?_eq_some_iff.1 hj).1] at hi
    cases hi
    have a2 := h4 j _ x hj hx
    generalize hq : x = v at a2
    cases a2
    exact own_settled hr hF' (fun b hb => .inr hb)
   ·rw [List.getElem?_set_ne hij] at hi
    exact (h4 i av x hi hx).mono hF' (fun _ _ => rfl)
  ·exact (r1.rep x (by simp [hx])).mono hF' (fun _ _ => rfl) (fun _ _ => rfl)
 ·rcases hb with hb | hb
  ·have := r1.sep b' hb; exact ⟨this.1, fun hm => this.2 (hown.mem_iff.2 (List.mem_append_right _ hm))⟩
  ·exact ⟨r1.lt b' (hown.mem_iff.2 (List.mem_append_left _ (hgo b' hb))), fun hm => (List.nodup_append.1 hnd2).2.2 b' (hgo b' hb) b' hm rfl⟩
theorem Casts.len {l m : List AV} (c : Casts l m) : m.length = l.length := by
 induction c with
 | nil => rfl
 | cons _ _ ih => simp [ih]
/-- What a box holds, said otherwise. -/
theorem weak_castB {b : Nat} {cs cs' : List AV} {h' : List HA} (hs : Spl h (.box b cs) h') (hc : Casts cs cs') : Weak N env h env (.box b cs' :: h') := by
 intro F a w s
 have r1 := s.r.perm hs.perm
 have e1 := Ext.permR hs.perm (Ext.refl F h w)
 refine ⟨F, ⟨⟨fun x hx => ?_, ?_, ?_, ?_⟩, s.size, s.env⟩, ⟨e1.os, e1.output, e1.tape, e1.size, e1.keep, ?_, e1.mono, e1.new, e1.dr⟩⟩
 ·rcases List.mem_cons.1 hx with rfl | hx
  ·obtain ⟨arr, ty, h1, h2, h3, h4⟩ := r1.rep (.box b cs) (by simp)
   refine ⟨arr, ty, h1, by rw [hc.len]; exact h2, h3, fun j y x hj hx => ?_⟩
   have hjl : j < cs.length := by rw [← hc.len]; exact (List.getElem?_eq_some_iff.1 hj).1
   have ha := List.getElem?_eq_getElem hjl
   exact hc.get j _ y ha hj F w x (h4 j _ x ha hx)
  ·exact r1.rep x (by simp [hx])
 ·exact r1.nd
 ·exact r1.lt
 ·exact r1.sep
 ·exact e1.sub
end A
end Go.Proofs.YthkgdhamnpiagaaGreat
namespace Go.Proofs.YthkgdhamnpiagaaGreat
namespace A
theorem st_134 : structPlaces Tryz.prog 134 = some [(0, 1), (1, 1)] := by kernel_rfl
theorem st_55 : structPlaces Tryz.prog 55 = some [(0, 1), (1, 1), (2, 1)] := by kernel_rfl
theorem toI_wrap {n : Nat} (h : n < 18446744073709551616) : IntKind.i64.wrap (n : Int) = toI n := by
 rw [IntKind.wrap_i64]
 unfold toI
 split <;> omega
theorem rdLinks_step {k : Nat} {s : RS} (h : s.w = false) : rdLinks (k + 1) s = (⟨(s.num 1).1, ((s.num 1).2.num 4).1⟩ :: (rdLinks k ((s.num 1).2.num 4).2).1, (rdLinks k ((s.num 1).2.num 4).2).2) := by
 rw [rdLinks, if_neg (by rw [h]; decide)]
theorem rdLinks_end {k : Nat} {s : RS} (h : k = 0 ∨ s.w = true) : rdLinks k s = ([], s) := by
 cases k with
 | zero => rfl
 | succ k =>
   rcases h with h | h
   ·cases h
   ·rw [rdLinks, if_pos h]
theorem lsaOk_iff (s : RS) : rdLsaOk s = (!(rdLsaX s).2.w && lsaB (rdLsaX s).1) := rfl
theorem cast_lsa0 : Cast (.agg [.int 0, .int 0, .v (.slice none 0 0)]) (.agg (lsaC lsa0)) := cast_ag (.cons .refl (.cons .refl (.cons cast_nil .nil)))
/- lsa.Read -/
def lsa_Read_r6_T : Bool × List (List Nat × List Nat) := (true, [([], []), ([0], [0]), ([], []), ([2], [2]), ([3], [3]), ([], []), ([5, 3], [5]), ([6], [6]), ([4, 7], [4, 7]), ([8], [8]), ([1, 9, 6], [1, 9]), ([0, 1, 2, 3, 4, 5, 6, 7, 8, 9, 10], []), ([11, 10, 10, 0, 1, 2, 3, 4, 5, 6, 7, 8, 9, 10], [10, 11])])
def lsa_Read_r6_B : List Nat := [0, 1, 0, 4, 12, 0, 44, 108, 252, 508, 1023, 2047, 4095]
theorem lsa_Read_r6_t : Go.Proofs.YthkgdhamnpiagaaGreatW.PrintLast.rtab .any (Go.Proofs.YthkgdhamnpiagaaGreatW.PrintLast.opsOf Tryz.f134 6) = lsa_Read_r6_T := by kernel_rfl
theorem lsa_Read_r6_b : Go.Proofs.YthkgdhamnpiagaaGreatW.PrintLast.waitsOk lsa_Read_r6_T.2 lsa_Read_r6_B = true := by kernel_rfl
set_option maxRecDepth 100000 in
set_option maxHeartbeats 4000000 in
theorem lsa_Read {rb : Nat} {s : RS} (hk : BOk s.b) (hb : s.b.length ≤ 1000000) : Triple Tryz.prog 134 [.v (.pointer (some ⟨rb, 0, none⟩))] [.box rb [bsA (s).b, .v (.bool (s).w)]] (Is (.tup [.agg (lsaC (rdLsa s)), .v (.bool (rdLsaOk s))]) [.box rb [bsA ((rdLsaX s).2).b, .v (.bool ((rdLsaX s).2).w)]]) := by
 have k1 := RS.num_ok 1 hk
 have k2 := RS.num_ok 8 k1
 have k3 := RS.num_ok 1 k2
 have l1 := RS.num_len 1 s
 have l2 := RS.num_len 8 (s.num 1).2
 have l3 := RS.num_len 1 ((s.num 1).2.num 8).2
 have m0 := num_lt1 hk
 have m1 := num_lt8 k1
 have m2 := num_lt1 k2
 refine triple_ofR Tryz.func134 rfl (by kernel_rfl) rfl (by simp) ?_
 refine aSeq ?_
 refine aReg ?_
 refine sq ?_
 refine qAlloc rfl rfl (by decide) ze_55 rfl (fun b2 => ?_)
 refine sp pMa ?_
 refine oNil ?_
 refine aSeq ?_
 refine aReg ?_
 refine sp pM ?_
 refine sa ?_
 refine cai rfl rfl rfl (rd_Num (rb := rb) (s := s) (k := 1) hk (by omega) (by decide) (by decide)) ?_
 refine sp (by first | exact pCvK ik_172 ik_3 | exact pConv rfl rfl ik_172 ik_3 rfl) ?_
 refine sp pM ?_
 refine sa ?_
 refine cai rfl rfl rfl (rd_Num (rb := rb) (s := (s.num 1).2) (k := 8) k1 (by omega) (by decide) (by decide)) ?_
 refine sp (pConv (n' := toI ((s.num 1).2.num 8).1) rfl rfl ik_172 ik_3 (toI_wrap (by omega))) ?_
 refine sp (pBuild rfl st_55 ze_55 rfl rfl rfl rfl) ?_
 refine sq ?_
 refine qAlloc rfl rfl (by decide) ze_55 rfl (fun b4 => ?_)
 refine sa ?_
 refine oStW rfl rfl rfl rfl (by repeat constructor) ty_55 ?_
 refine oNil ?_
 refine aSeq ?_
 refine aReg ?_
 refine sp pM ?_
 refine sa ?_
 refine cai rfl rfl rfl (rd_Num (rb := rb) (s := ((s.num 1).2.num 8).2) (k := 1) k2 (by omega) (by decide) (by decide)) ?_
 refine sp (by first | exact pCvK ik_172 ik_3 | exact pConv rfl rfl ik_172 ik_3 rfl) ?_
 refine sp pMa ?_
 refine oNil ?_
 refine aSeq ?_
 refine aSeq ?_
 refine aWeak (weak_nil 134 2) ?_
 refine aReg ?_
 refine sp pMa ?_
 refine oNil ?_
 refine aBlock ?_
 refine loopF (α := Nat × List Link × RS × Option Nat × Nat) (kept := [(0, _), (2, _), (4, _), (5, _)]) (fun (i, ls, r, g, c) => i ≤ (((s.num 1).2.num 8).2.num 1).1 ∧ ls.length ≤ i ∧ BOk r.b ∧ r.b.length ≤ 1000000 ∧ rdLinks (((s.num 1).2.num 8).2.num 1).1 (((s.num 1).2.num 8).2.num 1).2 = (ls ++ (rdLinks ((((s.num 1).2.num 8).2.num 1).1 - i) r).1, (rdLinks ((((s.num 1).2.num 8).2.num 1).1 - i) r).2)) (fun (i, ls, r, g, c) => [(6, .int i)]) (fun (i, ls, r, g, c) => [.sl g c 134 2 (ls.map linkC), .box b4 [.int (s.num 1).1, .int (toI ((s.num 1).2.num 8).1), .v (slV g ls.length c)], .box rb [bsA (r).b, .v (.bool (r).w)]]) (fun (i, ls, r, g, c) => (((s.num 1).2.num 8).2.num 1).1 - i) (0, [], (((s.num 1).2.num 8).2.num 1).2, _, _) ?_ ⟨gInt rfl (by first | rfl | omega | simp), rfl, rfl, rfl, rfl, trivial⟩ (by repeat constructor) ?_
 ·skip
  exact ⟨by omega, by simp, k3, by omega, by simp⟩
 ·rintro ⟨i, ls, r, g, c⟩ ⟨hi, hll, hrk, hrb, hv⟩
  refine aSeq ?_
  refine aSeq ?_
  refine aReg ?_
  refine sp pM ?_
  refine sp pM ?_
  refine sp pB ?_
  refine sp pM ?_
  refine oSplitDec 20 rfl (fun c20 => ?_) (fun c20 => ?_)
  ·skip
   refine gp pM ?_
   refine ga ?_
   refine cai rfl rfl rfl (rd_Wrong (rb := rb) (s := r)) ?_
   refine gp pNo ?_
   refine sp pK ?_
   refine oNil ?_
   refine aCondNot rfl (fun c24 => ?_) (fun c24 => ?_)
   ·skip
    refine aSkip ?_
    refine aSeq ?_
    refine aBlock ?_
    have hrw : r.w = false := by simp_all
    have hst := rdLinks_step (k := (((s.num 1).2.num 8).2.num 1).1 - i - 1) hrw
    rw [show (((s.num 1).2.num 8).2.num 1).1 - i - 1 + 1 = (((s.num 1).2.num 8).2.num 1).1 - i by omega] at hst
    have n1 := num_lt1 hrk
    have n2 := num_lt4 (RS.num_ok 1 hrk)
    have p1 := RS.num_len 1 r
    have p2 := RS.num_len 4 (r.num 1).2
    refine aDrawS (h1 := [.box b4 _, .sl g _ _ _ _]) lsa_Read_r6_t lsa_Read_r6_b [10, 12] 13 #[false, false, false, false, false, false, false, false, false, false, false, false, false] (by kernel_rfl) rfl rfl (.cons (by repeat constructor) (.cons (by repeat constructor) .nil)) (fun HT => ?_)
    refine ep HT 0 rfl (pFb fd_55_2) ?_
    refine er HT 1 rfl (rB1 ty_53) ?_
    refine ep HT 2 rfl pM ?_
    refine ep HT 5 rfl pM ?_
    refine eOneS (i := 3) #[true, true, true, true, false, true, false, false, false, false, false, false, false] rfl (HT.one (by kernel_rfl)) (by decide) ?_
    ·skip
     refine stA (hx := [.box rb [bsA (r).b, .v (.bool (r).w)]]) (wantN rfl) (fun t ht => by cases ht <;> decide) (.cons (by repeat constructor) .nil) (by repeat constructor) ?_
     refine cai rfl rfl rfl (rd_Num (rb := rb) (s := r) (k := 1) hrk (by omega) (by decide) (by decide)) ?_
     refine undel (d := 30) rfl ?_
     try dsimp only [List.cons_append, List.nil_append]
     refine ef HT 4 rfl (by first | exact pCvK ik_172 ik_3 | exact pConv rfl rfl ik_172 ik_3 rfl) ?_
     refine eOneS (i := 6) #[true, true, true, true, true, true, true, false, false, false, false, false, false] rfl (HT.one (by kernel_rfl)) (by decide) ?_
     ·skip
      refine stA (hx := [.box rb [bsA ((r.num 1).2).b, .v (.bool ((r.num 1).2).w)]]) (wantN rfl) (fun t ht => by cases ht <;> decide) (.cons (by repeat constructor) .nil) (by repeat constructor) ?_
      refine cai rfl rfl rfl (rd_Num (rb := rb) (s := (r.num 1).2) (k := 4) (RS.num_ok 1 hrk) (by omega) (by decide) (by decide)) ?_
      refine undel (d := 33) rfl ?_
      try dsimp only [List.cons_append, List.nil_append]
      refine ef HT 7 rfl (by first | exact pCvK ik_172 ik_3 | exact pConv rfl rfl ik_172 ik_3 rfl) ?_
      refine ef HT 8 rfl (pBuild rfl st_134 ze_134 rfl rfl rfl rfl) ?_
      refine e1 HT 9 rfl ?_
      refine qLit (l := [_]) rfl rfl (by decide) us_53 ty_134 ze_134 rfl (by decide) (by decide) rfl rfl rfl (fun b36 => ?_)
      refine eLast ?_
      refine f1 HT 10 rfl ?_
      refine oAppT ([⟨(r.num 1).1, ((r.num 1).2.num 4).1⟩] : List Link) rfl rfl (by repeat constructor) (srcOwn rfl (by repeat constructor) rfl) el_53 sl_53 (fun g37 k37 => ?_)
      refine fp HT 11 rfl (pFb fd_55_2) ?_
      refine f1 HT 12 rfl ?_
      refine oStB rfl rfl rfl rfl (by repeat constructor) ty_53 rfl (Nat.le_of_ble_eq_true rfl) rfl ?_
      refine fE HT ?_
      clear HT
      refine aReg ?_
      refine sp pM ?_
      refine sp pAd ?_
      refine sp pMa ?_
      refine oNil ?_
      refine ⟨(i + 1, _, ((r.num 1).2.num 4).2, _, _), ?_, by (try dsimp only); omega, ⟨gInt rfl (by first | rfl | omega | simp), rfl, rfl, rfl, rfl, trivial⟩, _, (by repeat constructor)⟩
      refine ⟨by omega, by rw [List.length_append]; simp only [List.length_cons, List.length_nil]; omega, RS.num_ok 4 (RS.num_ok 1 hrk), by show ((r.num 1).2.num 4).2.b.length ≤ 1000000; omega, ?_⟩
      rw [hv, hst, show (((s.num 1).2.num 8).2.num 1).1 - i - 1 = (((s.num 1).2.num 8).2.num 1).1 - (i + 1) by omega, List.append_assoc]
      rfl
   ·skip
    refine aExit rfl ?_
    refine aSeq ?_
    refine aSeq ?_
    have hend := rdLinks_end (k := (((s.num 1).2.num 8).2.num 1).1 - i) (s := r) (by first | (right; simp_all; done) | (left; omega))
    rw [hend, List.append_nil] at hv
    have hX : rdLsaX s = (⟨(s.num 1).1, toI ((s.num 1).2.num 8).1, ls⟩, r) := by
      unfold rdLsaX
      simp only
      rw [hv]
    refine aWeak (weak_settleB (b := b4) (j := 2) (.cons (by repeat constructor) (.cons (by repeat constructor) .nil)) rfl (by simp)) ?_
    refine aWeak (weak_box (b := b4) (cs' := lsaC (rdLsaX s).1) (by repeat constructor) (by rw [hX]; rfl)) ?_
    refine aReg ?_
    refine sp pM ?_
    refine sa ?_
    refine cai rfl rfl rfl (rd_Wrong (rb := rb) (s := r)) ?_
    refine sp pM ?_
    refine oSplit 41 rfl (fun c41 => ?_) (fun c41 => ?_)
    ·skip
     refine gf ?_
     refine gf ?_
     refine gf ?_
     refine sp pK ?_
     refine oNil ?_
     refine aCondT rfl ?_
     refine aSeq ?_
     refine aReg ?_
     refine sp (pBuild rfl st_55 ze_55 rfl rfl rfl rfl) ?_
     refine sa ?_
     refine oStW rfl rfl rfl rfl (by repeat constructor) ty_55 ?_
     refine sp pMa ?_
     refine oNil ?_
     have hO : rdLsaOk s = false := by
       rw [lsaOk_iff]
       rw [show (rdLsaX s).2 = r by rw [hX]]
       cases hB : lsaB (rdLsaX s).1 <;> simp_all
     rw [hO, show rdLsa s = lsa0 by unfold rdLsa; rw [hO]; rfl, show (rdLsaX s).2 = r by rw [hX]]
     refine aRet ?_
     refine finRIs (l := [.agg (lsaC lsa0), .v (.bool false)]) (.cons (.cast (a := .agg [.int 0, .int 0, .v (.slice none 0 0)]) (.cellA rfl (by repeat (first | exact List.mem_cons_self | apply List.mem_cons_of_mem)) ty_55) cast_lsa0) (.cons (.tmp rfl) .nil)) rfl
    ·skip
     refine gr (by first | exact rBWa ty_55 | exact rBW ty_55 | exact rBA ty_55) ?_
     refine ga ?_
     refine (ci rfl rfl rfl (lsa_Check (l := (rdLsaX s).1)) ?_).op
     refine gp pB ?_
     refine sp pK ?_
     refine oNil ?_
     refine aCondNe rfl (fun c45 => ?_) (fun c45 => ?_)
     ·skip
      refine aSeq ?_
      refine aReg ?_
      refine sp (pBuild rfl st_55 ze_55 rfl rfl rfl rfl) ?_
      refine sa ?_
      refine oStW rfl rfl rfl rfl (by repeat constructor) ty_55 ?_
      refine sp pMa ?_
      refine oNil ?_
      have hO : rdLsaOk s = false := by
        rw [lsaOk_iff]
        rw [show (rdLsaX s).2 = r by rw [hX]]
        cases hB : lsaB (rdLsaX s).1 <;> simp_all
      rw [hO, show rdLsa s = lsa0 by unfold rdLsa; rw [hO]; rfl, show (rdLsaX s).2 = r by rw [hX]]
      refine aRet ?_
      refine finRIs (l := [.agg (lsaC lsa0), .v (.bool false)]) (.cons (.cast (a := .agg [.int 0, .int 0, .v (.slice none 0 0)]) (.cellA rfl (by repeat (first | exact List.mem_cons_self | apply List.mem_cons_of_mem)) ty_55) cast_lsa0) (.cons (.tmp rfl) .nil)) rfl
     ·skip
      refine aSkip ?_
      refine aSeq ?_
      refine aReg ?_
      refine sr (by first | exact rBWa ty_55 | exact rBW ty_55 | exact rBA ty_55) ?_
      refine sa ?_
      refine oStW rfl rfl rfl rfl (by repeat constructor) ty_55 ?_
      refine sp pMa ?_
      refine oNil ?_
      have hO : rdLsaOk s = true := by
        rw [lsaOk_iff]
        rw [show (rdLsaX s).2 = r by rw [hX]]
        cases hB : lsaB (rdLsaX s).1 <;> simp_all
      rw [hO, show rdLsa s = (rdLsaX s).1 by unfold rdLsa; rw [hO]; rfl, show (rdLsaX s).2 = r by rw [hX]]
      refine aRet ?_
      refine finRIs (l := [.agg (lsaC (rdLsaX s).1), .v (.bool true)]) (.cons (.cellA rfl (by repeat (first | exact List.mem_cons_self | apply List.mem_cons_of_mem)) ty_55) (.cons (.tmp rfl) .nil)) rfl
  ·skip
   refine gf ?_
   refine gf ?_
   refine gf ?_
   refine sp pK ?_
   refine oNil ?_
   refine aCondF rfl ?_
   refine aExit rfl ?_
   refine aSeq ?_
   refine aSeq ?_
   have hend := rdLinks_end (k := (((s.num 1).2.num 8).2.num 1).1 - i) (s := r) (by first | (right; simp_all; done) | (left; omega))
   rw [hend, List.append_nil] at hv
   have hX : rdLsaX s = (⟨(s.num 1).1, toI ((s.num 1).2.num 8).1, ls⟩, r) := by
     unfold rdLsaX
     simp only
     rw [hv]
   refine aWeak (weak_settleB (b := b4) (j := 2) (.cons (by repeat constructor) (.cons (by repeat constructor) .nil)) rfl (by simp)) ?_
   refine aWeak (weak_box (b := b4) (cs' := lsaC (rdLsaX s).1) (by repeat constructor) (by rw [hX]; rfl)) ?_
   refine aReg ?_
   refine sp pM ?_
   refine sa ?_
   refine cai rfl rfl rfl (rd_Wrong (rb := rb) (s := r)) ?_
   refine sp pM ?_
   refine oSplit 41 rfl (fun c41 => ?_) (fun c41 => ?_)
   ·skip
    refine gf ?_
    refine gf ?_
    refine gf ?_
    refine sp pK ?_
    refine oNil ?_
    refine aCondT rfl ?_
    refine aSeq ?_
    refine aReg ?_
    refine sp (pBuild rfl st_55 ze_55 rfl rfl rfl rfl) ?_
    refine sa ?_
    refine oStW rfl rfl rfl rfl (by repeat constructor) ty_55 ?_
    refine sp pMa ?_
    refine oNil ?_
    have hO : rdLsaOk s = false := by
      rw [lsaOk_iff]
      rw [show (rdLsaX s).2 = r by rw [hX]]
      cases hB : lsaB (rdLsaX s).1 <;> simp_all
    rw [hO, show rdLsa s = lsa0 by unfold rdLsa; rw [hO]; rfl, show (rdLsaX s).2 = r by rw [hX]]
    refine aRet ?_
    refine finRIs (l := [.agg (lsaC lsa0), .v (.bool false)]) (.cons (.cast (a := .agg [.int 0, .int 0, .v (.slice none 0 0)]) (.cellA rfl (by repeat (first | exact List.mem_cons_self | apply List.mem_cons_of_mem)) ty_55) cast_lsa0) (.cons (.tmp rfl) .nil)) rfl
   ·skip
    refine gr (by first | exact rBWa ty_55 | exact rBW ty_55 | exact rBA ty_55) ?_
    refine ga ?_
    refine (ci rfl rfl rfl (lsa_Check (l := (rdLsaX s).1)) ?_).op
    refine gp pB ?_
    refine sp pK ?_
    refine oNil ?_
    refine aCondNe rfl (fun c45 => ?_) (fun c45 => ?_)
    ·skip
     refine aSeq ?_
     refine aReg ?_
     refine sp (pBuild rfl st_55 ze_55 rfl rfl rfl rfl) ?_
     refine sa ?_
     refine oStW rfl rfl rfl rfl (by repeat constructor) ty_55 ?_
     refine sp pMa ?_
     refine oNil ?_
     have hO : rdLsaOk s = false := by
       rw [lsaOk_iff]
       rw [show (rdLsaX s).2 = r by rw [hX]]
       cases hB : lsaB (rdLsaX s).1 <;> simp_all
     rw [hO, show rdLsa s = lsa0 by unfold rdLsa; rw [hO]; rfl, show (rdLsaX s).2 = r by rw [hX]]
     refine aRet ?_
     refine finRIs (l := [.agg (lsaC lsa0), .v (.bool false)]) (.cons (.cast (a := .agg [.int 0, .int 0, .v (.slice none 0 0)]) (.cellA rfl (by repeat (first | exact List.mem_cons_self | apply List.mem_cons_of_mem)) ty_55) cast_lsa0) (.cons (.tmp rfl) .nil)) rfl
    ·skip
     refine aSkip ?_
     refine aSeq ?_
     refine aReg ?_
     refine sr (by first | exact rBWa ty_55 | exact rBW ty_55 | exact rBA ty_55) ?_
     refine sa ?_
     refine oStW rfl rfl rfl rfl (by repeat constructor) ty_55 ?_
     refine sp pMa ?_
     refine oNil ?_
     have hO : rdLsaOk s = true := by
       rw [lsaOk_iff]
       rw [show (rdLsaX s).2 = r by rw [hX]]
       cases hB : lsaB (rdLsaX s).1 <;> simp_all
     rw [hO, show rdLsa s = (rdLsaX s).1 by unfold rdLsa; rw [hO]; rfl, show (rdLsaX s).2 = r by rw [hX]]
     refine aRet ?_
     refine finRIs (l := [.agg (lsaC (rdLsaX s).1), .v (.bool true)]) (.cons (.cellA rfl (by repeat (first | exact List.mem_cons_self | apply List.mem_cons_of_mem)) ty_55) (.cons (.tmp rfl) .nil)) rfl
end A
end Go.Proofs.YthkgdhamnpiagaaGreat
namespace Go.Proofs.YthkgdhamnpiagaaGreat
namespace A
theorem es_105 : elemSize Tryz.prog 105 = some 6 := by kernel_rfl
theorem fd_104_0 : fieldOf Tryz.prog 104 0 = some (0, 1, false) := by kernel_rfl
theorem fd_104_1 : fieldOf Tryz.prog 104 1 = some (1, 3, true) := by kernel_rfl
theorem fd_104_2 : fieldOf Tryz.prog 104 2 = some (4, 1, false) := by kernel_rfl
theorem fd_104_3 : fieldOf Tryz.prog 104 3 = some (5, 1, false) := by kernel_rfl
theorem sl_105 : isSl Tryz.prog 105 = true := by kernel_rfl
theorem ty_104 : tyOf Tryz.prog 104 = some (6, true) := by kernel_rfl
theorem ze_104 : zeroOf Tryz.prog 104 = some (.agg #[.int .i64 0, .int .i64 0, .int .i64 0, .slice none 0 0, .int .i64 0, .int .i64 0]) := by kernel_rfl
theorem okC_iff {c : Chg} : okC c = true ↔ (c.kind = 1 ∧ lsaB c.lsa = true ∧ c.n = 0 ∧ c.o = 0) ∨ (c.kind = 2 ∧ bareB c = true ∧ (1 ≤ c.n ∧ c.n ≤ 4611686018427387904) ∧ c.o = 0) ∨ (c.kind = 3 ∧ bareB c = true ∧ (1 ≤ c.n ∧ c.n ≤ 1073741824) ∧ c.o = 0) ∨ (c.kind = 4 ∧ bareB c = true ∧ (1 ≤ c.n ∧ c.n ≤ 1073741824) ∧ 1 ≤ c.o ∧ c.o ≤ 64) := by
 unfold okC inr
 split
 ·rename_i h; simp [h]
 ·split
  ·rename_i h; simp [h]
  ·split
   ·rename_i h; simp [h]
   ·split
    ·rename_i h; simp [h]
    ·simp_all
theorem chgBs_len {c : Chg} (h : okC c = true) : (chgBs c).length ≤ 100 := by
 unfold chgBs
 rw [List.length_append, be_len]
 split
 ·rename_i h1
  rcases okC_iff.1 h with h2 | h2 | h2 | h2
  ·have := (lsaB_iff.1 h2.2.1).2.2.2.1
   rw [lsaBs_len]
   omega
  all_goals omega
 ·split
  ·rw [be_len]; omega
  ·split
   ·rw [List.length_append, be_len, be_len]; omega
   ·rw [be_len]; omega
theorem inr_eq {n lo hi : Int} : inr n lo hi = (decide (lo ≤ n) && decide (n ≤ hi)) := rfl
/- change.within -/
set_option maxRecDepth 100000 in
set_option maxHeartbeats 400000 in
theorem chg_within {n lo hi : Int} : Triple Tryz.prog 168 [.int n, .int lo, .int hi] [] (Is (.v (.bool (inr n lo hi))) []) := by
 refine triple_of Tryz.func168 rfl (by kernel_rfl) rfl (by simp) ?_
 refine aSeq ?_
 refine aReg ?_
 refine sp pMa ?_
 refine oNil ?_
 refine aSeq ?_
 refine aReg ?_
 refine sp pM ?_
 refine sp pM ?_
 refine sp pB ?_
 refine sp pM ?_
 refine oSplitDec 10 rfl (fun c10 => ?_) (fun c10 => ?_)
 ·skip
  refine gp pM ?_
  refine gp pM ?_
  refine gp pB ?_
  refine sp pK ?_
  refine sp pMa ?_
  refine oNil ?_
  refine aRet ?_
  refine finIs rfl ?_
  simp_all [retOf, inr]
  all_goals omega
 ·skip
  refine gf ?_
  refine gf ?_
  refine gf ?_
  refine sp pK ?_
  refine sp pMa ?_
  refine oNil ?_
  refine aRet ?_
  refine finIs rfl ?_
  simp_all [retOf, inr]
  all_goals omega
/- change.bare -/
set_option maxRecDepth 100000 in
set_option maxHeartbeats 400000 in
theorem chg_bare {c : Chg} : Triple Tryz.prog 262 [.agg (chgC c)] [] (Is (.v (.bool (bareB c))) []) := by
 refine triple_of Tryz.func262 rfl (by kernel_rfl) rfl (by simp) ?_
 refine aSeq ?_
 refine aReg ?_
 refine sq ?_
 refine qBox rfl rfl (by decide) rfl rfl (fun b1 => ?_)
 refine sp pMa ?_
 refine oNil ?_
 refine aSeq ?_
 refine aReg ?_
 refine sp (pFb fd_104_1) ?_
 refine sp (pFb fd_55_0) ?_
 refine sr (rB1 ty_3) ?_
 refine sp pB ?_
 refine sp pM ?_
 refine oSplitEq 7 rfl (fun c7 => ?_) (fun c7 => ?_)
 ·skip
  refine gp (pFb fd_104_1) ?_
  refine gp (pFb fd_55_1) ?_
  refine gr (rB1 ty_3) ?_
  refine gp pB ?_
  refine sp pK ?_
  refine sp pM ?_
  refine oSplitEq 13 rfl (fun c13 => ?_) (fun c13 => ?_)
  ·skip
   refine gp (pFb fd_104_1) ?_
   refine gp (pFb fd_55_2) ?_
   refine gr (rB1 ty_53) ?_
   refine gp (by first | exact pLm sl_53 | exact pLs sl_53 | exact pLv sl_53) ?_
   refine gp pB ?_
   refine sp pK ?_
   refine sp pMa ?_
   refine oNil ?_
   refine aRet ?_
   refine finIs rfl ?_
   simp_all [retOf, bareB]
   all_goals (first | omega | (rw [Bool.eq_iff_iff]; simp))
  ·skip
   refine gf ?_
   refine gf ?_
   refine gf ?_
   refine gf ?_
   refine gf ?_
   refine sp pK ?_
   refine sp pMa ?_
   refine oNil ?_
   refine aRet ?_
   refine finIs rfl ?_
   simp_all [retOf, bareB]
   all_goals (first | omega | (rw [Bool.eq_iff_iff]; simp))
 ·skip
  refine gf ?_
  refine gf ?_
  refine gf ?_
  refine gf ?_
  refine sp pK ?_
  refine sp pM ?_
  refine gf ?_
  refine gf ?_
  refine gf ?_
  refine gf ?_
  refine gf ?_
  refine sp pK ?_
  refine sp pMa ?_
  refine oNil ?_
  refine aRet ?_
  refine finIs rfl ?_
  simp_all [retOf, bareB]
  all_goals (first | omega | (rw [Bool.eq_iff_iff]; simp))
/- change.Check -/
set_option maxRecDepth 100000 in
set_option maxHeartbeats 4000000 in
theorem chg_Check {c : Chg} : Triple Tryz.prog 169 [.agg (chgC c)] [] (Is (.int (if okC c then 0 else 1)) []) := by
 refine triple_of Tryz.func169 rfl (by kernel_rfl) rfl (by simp) ?_
 refine aSeq ?_
 refine aReg ?_
 refine sq ?_
 refine qBox rfl rfl (by decide) rfl rfl (fun b1 => ?_)
 refine sp pMa ?_
 refine oNil ?_
 refine aSeq ?_
 refine aReg ?_
 refine sp pMa ?_
 refine oNil ?_
 refine aSeq ?_
 refine aSeq ?_
 refine aReg ?_
 refine sp (pFb fd_104_0) ?_
 refine sr (rB1 ty_3) ?_
 refine oNil ?_
 refine aBlock ?_
 refine aSeq ?_
 refine aReg ?_
 refine sp pB ?_
 refine sp pMa ?_
 refine oNil ?_
 refine aCondEq rfl (fun c6 => ?_) (fun c6 => ?_)
 ·skip
  refine aReg ?_
  refine sp (pFb fd_104_1) ?_
  refine sr (by first | exact rBWa ty_55 | exact rBW ty_55 | exact rBA ty_55) ?_
  refine sq ?_
  refine ci rfl rfl rfl (lsa_Check (l := c.lsa)) ?_
  refine sp pB ?_
  refine sp pM ?_
  refine oSplitEq 12 rfl (fun c12 => ?_) (fun c12 => ?_)
  ·skip
   refine gp (pFb fd_104_2) ?_
   refine gr (rB1 ty_3) ?_
   refine gp pB ?_
   refine sp pK ?_
   refine sp pM ?_
   refine oSplitEq 17 rfl (fun c17 => ?_) (fun c17 => ?_)
   ·skip
    refine gp (pFb fd_104_3) ?_
    refine gr (rB1 ty_3) ?_
    refine gp pB ?_
    refine sp pK ?_
    refine sp pMa ?_
    refine oNil ?_
    refine aSeq ?_
    refine aSeq ?_
    refine aReg ?_
    refine sp pM ?_
    refine sp pNo ?_
    refine oNil ?_
    refine aCondNot rfl (fun c65 => ?_) (fun c65 => ?_)
    ·skip
     refine aSeq ?_
     refine aReg ?_
     refine sp pMa ?_
     refine oNil ?_
     refine aRet ?_
     refine finIs rfl ?_
     have hB : okC c = false := by
       first
         | (simp_all [okC]; done)
         | (unfold okC; simp_all; done)
         | (unfold okC; simp_all; omega)
     rw [hB]
     rfl
    ·skip
     refine aSkip ?_
     refine aSeq ?_
     refine aReg ?_
     refine sp pMa ?_
     refine oNil ?_
     refine aRet ?_
     refine finIs rfl ?_
     have hB : okC c = true := by
       first
         | (simp_all [okC]; done)
         | (unfold okC; simp_all; done)
         | (unfold okC; simp_all; omega)
     rw [hB]
     rfl
   ·skip
    refine gf ?_
    refine gf ?_
    refine gf ?_
    refine sp pK ?_
    refine sp pMa ?_
    refine oNil ?_
    refine aSeq ?_
    refine aSeq ?_
    refine aReg ?_
    refine sp pM ?_
    refine sp pNo ?_
    refine oNil ?_
    refine aCondT rfl ?_
    refine aSeq ?_
    refine aReg ?_
    refine sp pMa ?_
    refine oNil ?_
    refine aRet ?_
    refine finIs rfl ?_
    have hB : okC c = false := by
      first
        | (simp_all [okC]; done)
        | (unfold okC; simp_all; done)
        | (unfold okC; simp_all; omega)
    rw [hB]
    rfl
  ·skip
   refine gf ?_
   refine gf ?_
   refine gf ?_
   refine sp pK ?_
   refine sp pM ?_
   refine gf ?_
   refine gf ?_
   refine gf ?_
   refine sp pK ?_
   refine sp pMa ?_
   refine oNil ?_
   refine aSeq ?_
   refine aSeq ?_
   refine aReg ?_
   refine sp pM ?_
   refine sp pNo ?_
   refine oNil ?_
   refine aCondT rfl ?_
   refine aSeq ?_
   refine aReg ?_
   refine sp pMa ?_
   refine oNil ?_
   refine aRet ?_
   refine finIs rfl ?_
   have hB : okC c = false := by
     first
       | (simp_all [okC]; done)
       | (unfold okC; simp_all; done)
       | (unfold okC; simp_all; omega)
   rw [hB]
   rfl
 ·skip
  refine aSeq ?_
  refine aReg ?_
  refine sp pB ?_
  refine sp pMa ?_
  refine oNil ?_
  refine aCondEq rfl (fun c22 => ?_) (fun c22 => ?_)
  ·skip
   refine aReg ?_
   refine sr (by first | exact rBWa ty_104 | exact rBW ty_104 | exact rBA ty_104) ?_
   refine sq ?_
   refine cv rfl rfl rfl (lents_refl _) (chg_bare (c := c)) ?_
   refine sp pM ?_
   refine oSplit 26 rfl (fun c26 => ?_) (fun c26 => ?_)
   ·skip
    refine gp (pFb fd_104_2) ?_
    refine gr (rB1 ty_3) ?_
    refine ga ?_
    refine (cv rfl rfl rfl (lents_refl _) chg_within ?_).op
    refine sp pK ?_
    refine sp pM ?_
    refine oSplit 31 rfl (fun c31 => ?_) (fun c31 => ?_)
    ·skip
     refine gp (pFb fd_104_3) ?_
     refine gr (rB1 ty_3) ?_
     refine gp pB ?_
     refine sp pK ?_
     refine sp pMa ?_
     refine oNil ?_
     refine aSeq ?_
     refine aSeq ?_
     refine aReg ?_
     refine sp pM ?_
     refine sp pNo ?_
     refine oNil ?_
     refine aCondNot rfl (fun c65 => ?_) (fun c65 => ?_)
     ·skip
      refine aSeq ?_
      refine aReg ?_
      refine sp pMa ?_
      refine oNil ?_
      refine aRet ?_
      refine finIs rfl ?_
      have hB : okC c = false := by
        first
          | (simp_all [okC]; done)
          | (unfold okC; simp_all; done)
          | (unfold okC; simp_all; omega)
      rw [hB]
      rfl
     ·skip
      refine aSkip ?_
      refine aSeq ?_
      refine aReg ?_
      refine sp pMa ?_
      refine oNil ?_
      refine aRet ?_
      refine finIs rfl ?_
      have hB : okC c = true := by
        first
          | (simp_all [okC]; done)
          | (unfold okC; simp_all; done)
          | (unfold okC; simp_all; omega)
      rw [hB]
      rfl
    ·skip
     refine gf ?_
     refine gf ?_
     refine gf ?_
     refine sp pK ?_
     refine sp pMa ?_
     refine oNil ?_
     refine aSeq ?_
     refine aSeq ?_
     refine aReg ?_
     refine sp pM ?_
     refine sp pNo ?_
     refine oNil ?_
     refine aCondT rfl ?_
     refine aSeq ?_
     refine aReg ?_
     refine sp pMa ?_
     refine oNil ?_
     refine aRet ?_
     refine finIs rfl ?_
     have hB : okC c = false := by
       first
         | (simp_all [okC]; done)
         | (unfold okC; simp_all; done)
         | (unfold okC; simp_all; omega)
     rw [hB]
     rfl
   ·skip
    refine gf ?_
    refine gf ?_
    refine gf ?_
    refine sp pK ?_
    refine sp pM ?_
    refine gf ?_
    refine gf ?_
    refine gf ?_
    refine sp pK ?_
    refine sp pMa ?_
    refine oNil ?_
    refine aSeq ?_
    refine aSeq ?_
    refine aReg ?_
    refine sp pM ?_
    refine sp pNo ?_
    refine oNil ?_
    refine aCondT rfl ?_
    refine aSeq ?_
    refine aReg ?_
    refine sp pMa ?_
    refine oNil ?_
    refine aRet ?_
    refine finIs rfl ?_
    have hB : okC c = false := by
      first
        | (simp_all [okC]; done)
        | (unfold okC; simp_all; done)
        | (unfold okC; simp_all; omega)
    rw [hB]
    rfl
  ·skip
   refine aSeq ?_
   refine aReg ?_
   refine sp pB ?_
   refine sp pMa ?_
   refine oNil ?_
   refine aCondEq rfl (fun c36 => ?_) (fun c36 => ?_)
   ·skip
    refine aReg ?_
    refine sr (by first | exact rBWa ty_104 | exact rBW ty_104 | exact rBA ty_104) ?_
    refine sq ?_
    refine cv rfl rfl rfl (lents_refl _) (chg_bare (c := c)) ?_
    refine sp pM ?_
    refine oSplit 40 rfl (fun c40 => ?_) (fun c40 => ?_)
    ·skip
     refine gp (pFb fd_104_2) ?_
     refine gr (rB1 ty_3) ?_
     refine ga ?_
     refine (cv rfl rfl rfl (lents_refl _) chg_within ?_).op
     refine sp pK ?_
     refine sp pM ?_
     refine oSplit 45 rfl (fun c45 => ?_) (fun c45 => ?_)
     ·skip
      refine gp (pFb fd_104_3) ?_
      refine gr (rB1 ty_3) ?_
      refine gp pB ?_
      refine sp pK ?_
      refine sp pMa ?_
      refine oNil ?_
      refine aSeq ?_
      refine aSeq ?_
      refine aReg ?_
      refine sp pM ?_
      refine sp pNo ?_
      refine oNil ?_
      refine aCondNot rfl (fun c65 => ?_) (fun c65 => ?_)
      ·skip
       refine aSeq ?_
       refine aReg ?_
       refine sp pMa ?_
       refine oNil ?_
       refine aRet ?_
       refine finIs rfl ?_
       have hB : okC c = false := by
         first
           | (simp_all [okC]; done)
           | (unfold okC; simp_all; done)
           | (unfold okC; simp_all; omega)
       rw [hB]
       rfl
      ·skip
       refine aSkip ?_
       refine aSeq ?_
       refine aReg ?_
       refine sp pMa ?_
       refine oNil ?_
       refine aRet ?_
       refine finIs rfl ?_
       have hB : okC c = true := by
         first
           | (simp_all [okC]; done)
           | (unfold okC; simp_all; done)
           | (unfold okC; simp_all; omega)
       rw [hB]
       rfl
     ·skip
      refine gf ?_
      refine gf ?_
      refine gf ?_
      refine sp pK ?_
      refine sp pMa ?_
      refine oNil ?_
      refine aSeq ?_
      refine aSeq ?_
      refine aReg ?_
      refine sp pM ?_
      refine sp pNo ?_
      refine oNil ?_
      refine aCondT rfl ?_
      refine aSeq ?_
      refine aReg ?_
      refine sp pMa ?_
      refine oNil ?_
      refine aRet ?_
      refine finIs rfl ?_
      have hB : okC c = false := by
        first
          | (simp_all [okC]; done)
          | (unfold okC; simp_all; done)
          | (unfold okC; simp_all; omega)
      rw [hB]
      rfl
    ·skip
     refine gf ?_
     refine gf ?_
     refine gf ?_
     refine sp pK ?_
     refine sp pM ?_
     refine gf ?_
     refine gf ?_
     refine gf ?_
     refine sp pK ?_
     refine sp pMa ?_
     refine oNil ?_
     refine aSeq ?_
     refine aSeq ?_
     refine aReg ?_
     refine sp pM ?_
     refine sp pNo ?_
     refine oNil ?_
     refine aCondT rfl ?_
     refine aSeq ?_
     refine aReg ?_
     refine sp pMa ?_
     refine oNil ?_
     refine aRet ?_
     refine finIs rfl ?_
     have hB : okC c = false := by
       first
         | (simp_all [okC]; done)
         | (unfold okC; simp_all; done)
         | (unfold okC; simp_all; omega)
     rw [hB]
     rfl
   ·skip
    refine aSeq ?_
    refine aReg ?_
    refine sp pB ?_
    refine sp pMa ?_
    refine oNil ?_
    refine aCondEq rfl (fun c50 => ?_) (fun c50 => ?_)
    ·skip
     refine aReg ?_
     refine sr (by first | exact rBWa ty_104 | exact rBW ty_104 | exact rBA ty_104) ?_
     refine sq ?_
     refine cv rfl rfl rfl (lents_refl _) (chg_bare (c := c)) ?_
     refine sp pM ?_
     refine oSplit 54 rfl (fun c54 => ?_) (fun c54 => ?_)
     ·skip
      refine gp (pFb fd_104_2) ?_
      refine gr (rB1 ty_3) ?_
      refine ga ?_
      refine (cv rfl rfl rfl (lents_refl _) chg_within ?_).op
      refine sp pK ?_
      refine sp pM ?_
      refine oSplit 59 rfl (fun c59 => ?_) (fun c59 => ?_)
      ·skip
       refine gp (pFb fd_104_3) ?_
       refine gr (rB1 ty_3) ?_
       refine ga ?_
       refine (cv rfl rfl rfl (lents_refl _) chg_within ?_).op
       refine sp pK ?_
       refine sp pMa ?_
       refine oNil ?_
       refine aSeq ?_
       refine aSeq ?_
       refine aReg ?_
       refine sp pM ?_
       refine sp pNo ?_
       refine oNil ?_
       refine aCondNot rfl (fun c65 => ?_) (fun c65 => ?_)
       ·skip
        refine aSeq ?_
        refine aReg ?_
        refine sp pMa ?_
        refine oNil ?_
        refine aRet ?_
        refine finIs rfl ?_
        have hB : okC c = false := by
          first
            | (simp_all [okC]; done)
            | (unfold okC; simp_all; done)
            | (unfold okC; simp_all; omega)
        rw [hB]
        rfl
       ·skip
        refine aSkip ?_
        refine aSeq ?_
        refine aReg ?_
        refine sp pMa ?_
        refine oNil ?_
        refine aRet ?_
        refine finIs rfl ?_
        have hB : okC c = true := by
          first
            | (simp_all [okC]; done)
            | (unfold okC; simp_all; done)
            | (unfold okC; simp_all; omega)
        rw [hB]
        rfl
      ·skip
       refine gf ?_
       refine gf ?_
       refine gf ?_
       refine sp pK ?_
       refine sp pMa ?_
       refine oNil ?_
       refine aSeq ?_
       refine aSeq ?_
       refine aReg ?_
       refine sp pM ?_
       refine sp pNo ?_
       refine oNil ?_
       refine aCondT rfl ?_
       refine aSeq ?_
       refine aReg ?_
       refine sp pMa ?_
       refine oNil ?_
       refine aRet ?_
       refine finIs rfl ?_
       have hB : okC c = false := by
         first
           | (simp_all [okC]; done)
           | (unfold okC; simp_all; done)
           | (unfold okC; simp_all; omega)
       rw [hB]
       rfl
     ·skip
      refine gf ?_
      refine gf ?_
      refine gf ?_
      refine sp pK ?_
      refine sp pM ?_
      refine gf ?_
      refine gf ?_
      refine gf ?_
      refine sp pK ?_
      refine sp pMa ?_
      refine oNil ?_
      refine aSeq ?_
      refine aSeq ?_
      refine aReg ?_
      refine sp pM ?_
      refine sp pNo ?_
      refine oNil ?_
      refine aCondT rfl ?_
      refine aSeq ?_
      refine aReg ?_
      refine sp pMa ?_
      refine oNil ?_
      refine aRet ?_
      refine finIs rfl ?_
      have hB : okC c = false := by
        first
          | (simp_all [okC]; done)
          | (unfold okC; simp_all; done)
          | (unfold okC; simp_all; omega)
      rw [hB]
      rfl
    ·skip
     refine aSkip ?_
     refine aSeq ?_
     refine aSeq ?_
     refine aReg ?_
     refine sp pM ?_
     refine sp pNo ?_
     refine oNil ?_
     refine aCondT rfl ?_
     refine aSeq ?_
     refine aReg ?_
     refine sp pMa ?_
     refine oNil ?_
     refine aRet ?_
     refine finIs rfl ?_
     have hB : okC c = false := by
       first
         | (simp_all [okC]; done)
         | (unfold okC; simp_all; done)
         | (unfold okC; simp_all; omega)
     rw [hB]
     rfl
theorem Triple_nilNum {w n : Nat} (h1 : 1 ≤ w) (h2 : w ≤ 8) : Triple Tryz.prog 91 [.v (.slice none 0 0), .int w, .v (.int .u64 n)] [] (Is (.sl 1 ((be w n).map by1)) []) :=
 (oct_Num_s (b := []) (w := w) (n := n) (by decide) h1 h2).casts (.cons cast_nil (.cons .refl (.cons .refl .nil)))
def chgsP (l : List Chg) (i : Nat) : BS := be 1 l.length ++ (l.take i).flatMap chgBs
theorem chgsP_step {l : List Chg} {i : Nat} {c : Chg} (h : l[i]? = some c) : chgsP l (i + 1) = chgsP l i ++ chgBs c := by
 unfold chgsP
 rw [take_step h, List.flatMap_append]
 simp
theorem chgsP_all (l : List Chg) : chgsP l l.length = chgsBs l := by unfold chgsP chgsBs; rw [List.take_length]
theorem flat_le {α : Type} {f : α → BS} {k : Nat} : ∀ {l : List α}, (∀ x ∈ l, (f x).length ≤ k) → (l.flatMap f).length ≤ k * l.length
 | [], _ => by simp
 | x :: l, h => by
   have h1 := flat_le (f := f) (l := l) fun y hy => h y (by simp [hy])
   have h2 := h x (by simp)
   rw [List.flatMap_cons, List.length_append, List.length_cons, Nat.mul_succ]
   omega
theorem chgsP_len {l : List Chg} {i : Nat} (hl : l.length ≤ 40) (h : ∀ j c, j < i → l[j]? = some c → okC c = true) : (chgsP l i).length ≤ 5000 := by
 unfold chgsP
 have h1 : ((l.take i).flatMap chgBs).length ≤ 100 * (l.take i).length := flat_le fun c hc => by
   obtain ⟨j, hj⟩ := List.mem_iff_getElem?.1 hc
   rw [List.getElem?_take] at hj
   split at hj
   ·exact chgBs_len (h j c (by assumption) hj)
   ·cases hj
 have h2 : (l.take i).length ≤ l.length := by rw [List.length_take]; omega
 rw [List.length_append, be_len]
 omega
theorem chgsE_bad {l : List Chg} {i : Nat} {c : Chg} (h : l[i]? = some c) (hc : okC c = false) : chgsE l = 1 := by
 unfold chgsE
 split
 ·rfl
 ·rw [if_neg]
  rw [List.all_eq_true]
  intro ha
  have := ha c (List.mem_of_getElem? h)
  rw [hc] at this
  cases this
theorem chgsE_good {l : List Chg} (h1 : 1 ≤ l.length) (h2 : l.length ≤ 40) (h : ∀ j c, j < l.length → l[j]? = some c → okC c = true) : chgsE l = 0 := by
 unfold chgsE
 rw [if_neg (by omega), if_pos]
 rw [List.all_eq_true]
 intro c hc
 obtain ⟨j, hj⟩ := List.mem_iff_getElem?.1 hc
 exact h j c (List.getElem?_eq_some_iff.1 hj).1 hj
theorem kindC {c : Chg} (h : okC c = true) : c.kind = 1 ∨ c.kind = 2 ∨ c.kind = 3 ∨ c.kind = 4 := by
 rcases okC_iff.1 h with h | h | h | h
 ·exact .inl h.1
 ·exact .inr (.inl h.1)
 ·exact .inr (.inr (.inl h.1))
 ·exact .inr (.inr (.inr h.1))
theorem chgsP_1 {l : List Chg} {i : Nat} {c : Chg} (h : l[i]? = some c) (k : c.kind = 1) : chgsP l (i + 1) = chgsP l i ++ be 1 c.kind.toNat ++ lsaBs c.lsa := by
 rw [chgsP_step h, List.append_assoc, chgBs, if_pos k]
theorem chgsP_2 {l : List Chg} {i : Nat} {c : Chg} (h : l[i]? = some c) (k : c.kind = 2) : chgsP l (i + 1) = chgsP l i ++ be 1 c.kind.toNat ++ be 8 c.n.toNat := by
 rw [chgsP_step h, List.append_assoc, chgBs, if_neg (by omega), if_pos k]
theorem chgsP_3 {l : List Chg} {i : Nat} {c : Chg} (h : l[i]? = some c) (k : c.kind = 3) : chgsP l (i + 1) = chgsP l i ++ be 1 c.kind.toNat ++ be 4 c.n.toNat := by
 rw [chgsP_step h, List.append_assoc, chgBs, if_neg (by omega), if_neg (by omega), if_neg (by omega)]
theorem chgsP_4 {l : List Chg} {i : Nat} {c : Chg} (h : l[i]? = some c) (k : c.kind = 4) : chgsP l (i + 1) = chgsP l i ++ be 1 c.kind.toNat ++ be 1 c.o.toNat ++ be 4 c.n.toNat := by
 rw [chgsP_step h, List.append_assoc, List.append_assoc, chgBs, if_neg (by omega), if_neg (by omega), if_pos k]
def chgsR (l : List Chg) : BS := if chgsE l = 0 then chgsBs l else []
/- change.Put -/
set_option maxRecDepth 100000 in
set_option maxHeartbeats 4000000 in
theorem chg_Put {l : List Chg} (hl : l.length ≤ 1000000) : Triple Tryz.prog 76 [.sl 6 (l.map chgC)] [] (Is (.tup [bsA (chgsR l), .int (chgsE l)]) []) := by
 refine triple_of Tryz.func76 rfl (by kernel_rfl) rfl (by simp) ?_
 refine aSeq ?_
 refine aReg ?_
 refine sp pMa ?_
 refine sp pMa ?_
 refine oNil ?_
 refine aSeq ?_
 refine aSeq ?_
 refine aReg ?_
 refine sp pM ?_
 refine sp (by first | exact pLm sl_105 | exact pLs sl_105) ?_
 refine sq ?_
 refine cv rfl rfl rfl (lents_refl _) chg_within ?_
 refine sp pNo ?_
 refine oNil ?_
 refine aCondNot rfl (fun c11 => ?_) (fun c11 => ?_)
 ·skip
  refine aSeq ?_
  refine aReg ?_
  refine sp pMa ?_
  refine sp pMa ?_
  refine oNil ?_
  have hir : inr (l.length : Int) 1 40 = false := by simp_all
  have hE : chgsE l = 1 := by unfold chgsE; rw [if_pos (by rw [inr_eq, Bool.and_eq_false_iff, decide_eq_false_iff_not, decide_eq_false_iff_not] at hir; omega)]
  have hR : chgsR l = [] := by unfold chgsR; rw [hE]; rfl
  rw [hE, hR]
  refine aWeak (weak_cast (k := 2) (b := .sl 1 []) rfl cast_nil) ?_
  refine aRet ?_
  exact finIs rfl rfl
 ·skip
  refine aSkip ?_
  refine aSeq ?_
  refine aReg ?_
  refine sp pM ?_
  refine sp (by first | exact pLm sl_105 | exact pLs sl_105) ?_
  refine sp (by first | exact pCvK ik_3 ik_172 | exact pConv rfl rfl ik_3 ik_172 rfl) ?_
  refine sq ?_
  refine ci rfl rfl rfl (Triple_nilNum (w := 1) (n := l.length) (by decide) (by decide)) ?_
  refine sp pMa ?_
  refine oNil ?_
  refine aSeq ?_
  refine aSeq ?_
  refine aReg ?_
  refine sp pM ?_
  refine sp (by first | exact pLm sl_105 | exact pLs sl_105) ?_
  refine sp pM ?_
  refine oNil ?_
  refine aBlock ?_
  refine loopF (α := Nat) (kept := [(16, _), (17, _)]) (fun i => i ≤ l.length ∧ ∀ (j : Nat) (c : Chg), j < i → l[j]? = some c → okC c = true) (fun i => [(18, .int i), (4, .sl 1 ((chgsP l i).map by1))]) (fun i => []) (fun i => l.length - i) 0 ?_ ⟨gInt rfl (by first | rfl | omega | simp), (by first | (rw [chgsP_1 hc (by omega)]; rfl) | (rw [chgsP_2 hc (by omega)]; rfl) | (rw [chgsP_3 hc (by omega)]; rfl) | (rw [chgsP_4 hc (by omega)]; rfl) | (exfalso; omega) | (show _ = some (AV.sl 1 ((be 1 l.length ++ ([] : BS)).map by1)); rw [List.append_nil]; rfl)), rfl, rfl, trivial⟩ (by repeat constructor) ?_
  ·skip
   exact ⟨by omega, fun j c hj => by omega⟩
  ·rintro i ⟨hi, hok⟩
   refine aSeq ?_
   have hl40 : l.length ≤ 40 ∧ 1 ≤ l.length := by simp_all [inr]; try omega
   obtain ⟨hl40, hl1⟩ := hl40
   refine aReg ?_
   refine sp pB ?_
   refine oNil ?_
   refine aSeq ?_
   refine aCondDec rfl (fun c19 => ?_) (fun c19 => ?_)
   ·skip
    refine aSkip ?_
    refine aSeq ?_
    refine aBlock ?_
    refine aSeq ?_
    obtain ⟨c, hc⟩ : ∃ z, l[i]? = some z := ⟨_, List.getElem?_eq_getElem (by omega)⟩
    have hpl := chgsP_len hl40 hok
    refine aReg ?_
    first | refine sp (pIx es_105) ?_ | (refine obtSN 16 18 rfl rfl (by omega) (fun x20 hx20 => ?_); refine sp (pIs es_105 hx20) ?_) | (refine obtS 16 18 rfl rfl (by omega) (by omega) (fun x20 hx20 => ?_); refine sp (pIs es_105 hx20) ?_) | refine sp (pIo es_105) ?_
    refine sr (by first | exact rSW ty_104 rfl | exact rSA ty_104) ?_
    refine sq ?_
    refine qAlloc rfl rfl (by decide) ze_104 rfl (fun b6 => ?_)
    refine sa ?_
    refine oStW rfl rfl rfl rfl (by repeat constructor) ty_104 ?_
    refine oNil ?_
    refine aSeq ?_
    refine aSeq ?_
    refine aReg ?_
    refine sr (by first | exact rBWa ty_104 | exact rBW ty_104 | exact rBA ty_104) ?_
    refine sq ?_
    refine ci rfl rfl rfl (chg_Check (c := c)) ?_
    refine sp pMa ?_
    refine oNil ?_
    refine aSeq ?_
    refine aReg ?_
    refine sp pM ?_
    refine sp pB ?_
    refine oNil ?_
    refine aCondNe rfl (fun c25 => ?_) (fun c25 => ?_)
    ·skip
     refine aSeq ?_
     refine aReg ?_
     refine sp pM ?_
     refine sp pMa ?_
     refine sp pMa ?_
     refine oNil ?_
     have hB : okC c = false := by simp_all
     have hE : chgsE l = 1 := chgsE_bad hc hB
     have hR : chgsR l = [] := by unfold chgsR; rw [hE]; rfl
     rw [hE, hR, hB]
     refine aWeak (weak_cast (k := 2) (b := .sl 1 []) rfl cast_nil) ?_
     refine aRet ?_
     exact finIs rfl rfl
    ·skip
     refine aSkip ?_
     refine aSeq ?_
     have hB : okC c = true := by simp_all
     have hBi := okC_iff.1 hB
     have hkk := kindC hB
     refine aReg ?_
     refine sp pM ?_
     refine sp (pFb fd_104_0) ?_
     refine sr (rB1 ty_3) ?_
     refine sp (pConv (n' := ((c.kind.toNat : Nat) : Int)) rfl rfl ik_3 ik_172 (by rw [Int.toNat_of_nonneg (by omega)]; exact wrap_u64 (by omega) (by omega))) ?_
     refine sq ?_
     refine ci rfl rfl rfl (oct_Num_s (b := chgsP l i) (w := 1) (n := c.kind.toNat) (by omega) (by decide) (by decide)) ?_
     refine sp pMa ?_
     refine oNil ?_
     refine aSeq ?_
     refine aReg ?_
     refine sp (pFb fd_104_0) ?_
     refine sr (rB1 ty_3) ?_
     refine oNil ?_
     refine aBlock ?_
     refine aSeq ?_
     refine aBlock ?_
     refine aSeq ?_
     refine aBlock ?_
     refine aSeq ?_
     refine aBlock ?_
     refine aSeq ?_
     refine aBlock ?_
     refine aSeq ?_
     refine aSeq ?_
     refine aSeq ?_
     refine aReg ?_
     refine sp pB ?_
     refine sp pMa ?_
     refine oNil ?_
     refine aCondEq rfl (fun c34 => ?_) (fun c34 => ?_)
     ·skip
      refine aExit rfl ?_
      refine aSeq ?_
      have hBl : lsaB c.lsa = true := by rcases hBi with h | h | h | h <;> first | exact h.2.1 | omega
      refine aReg ?_
      refine sp pM ?_
      refine sp (pFb fd_104_1) ?_
      refine sr (by first | exact rBWa ty_55 | exact rBW ty_55 | exact rBA ty_55) ?_
      refine sq ?_
      refine ci rfl rfl rfl (lsa_Put (b := chgsP l i ++ be 1 c.kind.toNat) (l := c.lsa) hBl (by rw [List.length_append, be_len]; omega)) ?_
      refine sp pMa ?_
      refine oNil ?_
      refine aExit rfl ?_
      refine aReg ?_
      refine sp pAd ?_
      refine sp pM ?_
      refine oNil ?_
      refine ⟨i + 1, ?_, by (try dsimp only); omega, ⟨gInt rfl (by first | rfl | omega | simp), (by first | (rw [chgsP_1 hc (by omega)]; rfl) | (rw [chgsP_2 hc (by omega)]; rfl) | (rw [chgsP_3 hc (by omega)]; rfl) | (rw [chgsP_4 hc (by omega)]; rfl) | (exfalso; omega) | (show _ = some (AV.sl 1 ((be 1 l.length ++ ([] : BS)).map by1)); rw [List.append_nil]; rfl)), rfl, rfl, trivial⟩, _, (by repeat constructor)⟩
      refine ⟨by omega, fun j d hj hd => ?_⟩
      by_cases hji : j = i
      ·subst hji
       rw [hc] at hd
       cases hd
       exact hB
      ·exact hok j d (by omega) hd
     ·skip
      refine aSkip ?_
      refine aSeq ?_
      refine aSeq ?_
      refine aReg ?_
      refine sp pB ?_
      refine sp pMa ?_
      refine oNil ?_
      refine aCondEq rfl (fun c36 => ?_) (fun c36 => ?_)
      ·skip
       refine aExit rfl ?_
       refine aSeq ?_
       refine aReg ?_
       refine sp pM ?_
       refine sp (pFb fd_104_2) ?_
       refine sr (rB1 ty_3) ?_
       refine sp (pConv (n' := ((c.n.toNat : Nat) : Int)) rfl rfl ik_3 ik_172 (by rw [Int.toNat_of_nonneg (by omega)]; exact wrap_u64 (by omega) (by omega))) ?_
       refine sq ?_
       refine ci rfl rfl rfl (oct_Num_s (b := chgsP l i ++ be 1 c.kind.toNat) (w := 8) (n := c.n.toNat) (by rw [List.length_append, be_len]; omega) (by decide) (by decide)) ?_
       refine sp pMa ?_
       refine oNil ?_
       refine aExit rfl ?_
       refine aReg ?_
       refine sp pAd ?_
       refine sp pM ?_
       refine oNil ?_
       refine ⟨i + 1, ?_, by (try dsimp only); omega, ⟨gInt rfl (by first | rfl | omega | simp), (by first | (rw [chgsP_1 hc (by omega)]; rfl) | (rw [chgsP_2 hc (by omega)]; rfl) | (rw [chgsP_3 hc (by omega)]; rfl) | (rw [chgsP_4 hc (by omega)]; rfl) | (exfalso; omega) | (show _ = some (AV.sl 1 ((be 1 l.length ++ ([] : BS)).map by1)); rw [List.append_nil]; rfl)), rfl, rfl, trivial⟩, _, (by repeat constructor)⟩
       refine ⟨by omega, fun j d hj hd => ?_⟩
       by_cases hji : j = i
       ·subst hji
        rw [hc] at hd
        cases hd
        exact hB
       ·exact hok j d (by omega) hd
      ·skip
       refine aSkip ?_
       refine aSeq ?_
       refine aSeq ?_
       refine aReg ?_
       refine sp pB ?_
       refine sp pMa ?_
       refine oNil ?_
       refine aCondEq rfl (fun c38 => ?_) (fun c38 => ?_)
       ·skip
        refine aExit rfl ?_
        refine aReg ?_
        refine sp pM ?_
        refine sp (pFb fd_104_3) ?_
        refine sr (rB1 ty_3) ?_
        refine sp (pConv (n' := ((c.o.toNat : Nat) : Int)) rfl rfl ik_3 ik_172 (by rw [Int.toNat_of_nonneg (by omega)]; exact wrap_u64 (by omega) (by omega))) ?_
        refine sq ?_
        refine ci rfl rfl rfl (oct_Num_s (b := chgsP l i ++ be 1 c.kind.toNat) (w := 1) (n := c.o.toNat) (by rw [List.length_append, be_len]; omega) (by decide) (by decide)) ?_
        refine sp pMa ?_
        refine oNil ?_
        refine aSeq ?_
        refine aReg ?_
        refine sp pM ?_
        refine sp (pFb fd_104_2) ?_
        refine sr (rB1 ty_3) ?_
        refine sp (pConv (n' := ((c.n.toNat : Nat) : Int)) rfl rfl ik_3 ik_172 (by rw [Int.toNat_of_nonneg (by omega)]; exact wrap_u64 (by omega) (by omega))) ?_
        refine sq ?_
        refine ci rfl rfl rfl (oct_Num_s (w := 4) (n := c.n.toNat) (by simp only [List.length_append, be_len]; omega) (by decide) (by decide)) ?_
        refine sp pMa ?_
        refine oNil ?_
        refine aExit rfl ?_
        refine aReg ?_
        refine sp pAd ?_
        refine sp pM ?_
        refine oNil ?_
        refine ⟨i + 1, ?_, by (try dsimp only); omega, ⟨gInt rfl (by first | rfl | omega | simp), (by first | (rw [chgsP_1 hc (by omega)]; rfl) | (rw [chgsP_2 hc (by omega)]; rfl) | (rw [chgsP_3 hc (by omega)]; rfl) | (rw [chgsP_4 hc (by omega)]; rfl) | (exfalso; omega) | (show _ = some (AV.sl 1 ((be 1 l.length ++ ([] : BS)).map by1)); rw [List.append_nil]; rfl)), rfl, rfl, trivial⟩, _, (by repeat constructor)⟩
        refine ⟨by omega, fun j d hj hd => ?_⟩
        by_cases hji : j = i
        ·subst hji
         rw [hc] at hd
         cases hd
         exact hB
        ·exact hok j d (by omega) hd
       ·skip
        refine aSkip ?_
        refine aSeq ?_
        refine aReg ?_
        refine sp pB ?_
        refine sp pMa ?_
        refine oNil ?_
        refine aCondEq rfl (fun c40 => ?_) (fun c40 => ?_)
        ·skip
         refine aExit rfl ?_
         refine aSeq ?_
         refine aReg ?_
         refine sp pM ?_
         refine sp (pFb fd_104_2) ?_
         refine sr (rB1 ty_3) ?_
         refine sp (pConv (n' := ((c.n.toNat : Nat) : Int)) rfl rfl ik_3 ik_172 (by rw [Int.toNat_of_nonneg (by omega)]; exact wrap_u64 (by omega) (by omega))) ?_
         refine sq ?_
         refine ci rfl rfl rfl (oct_Num_s (w := 4) (n := c.n.toNat) (by simp only [List.length_append, be_len]; omega) (by decide) (by decide)) ?_
         refine sp pMa ?_
         refine oNil ?_
         refine aExit rfl ?_
         refine aReg ?_
         refine sp pAd ?_
         refine sp pM ?_
         refine oNil ?_
         refine ⟨i + 1, ?_, by (try dsimp only); omega, ⟨gInt rfl (by first | rfl | omega | simp), (by first | (rw [chgsP_1 hc (by omega)]; rfl) | (rw [chgsP_2 hc (by omega)]; rfl) | (rw [chgsP_3 hc (by omega)]; rfl) | (rw [chgsP_4 hc (by omega)]; rfl) | (exfalso; omega) | (show _ = some (AV.sl 1 ((be 1 l.length ++ ([] : BS)).map by1)); rw [List.append_nil]; rfl)), rfl, rfl, trivial⟩, _, (by repeat constructor)⟩
         refine ⟨by omega, fun j d hj hd => ?_⟩
         by_cases hji : j = i
         ·subst hji
          rw [hc] at hd
          cases hd
          exact hB
         ·exact hok j d (by omega) hd
        ·skip
         refine aSkip ?_
         refine aExit rfl ?_
         refine aReg ?_
         refine sp pAd ?_
         refine sp pM ?_
         refine oNil ?_
         refine ⟨i + 1, ?_, by (try dsimp only); omega, ⟨gInt rfl (by first | rfl | omega | simp), (by first | (rw [chgsP_1 hc (by omega)]; rfl) | (rw [chgsP_2 hc (by omega)]; rfl) | (rw [chgsP_3 hc (by omega)]; rfl) | (rw [chgsP_4 hc (by omega)]; rfl) | (exfalso; omega) | (show _ = some (AV.sl 1 ((be 1 l.length ++ ([] : BS)).map by1)); rw [List.append_nil]; rfl)), rfl, rfl, trivial⟩, _, (by repeat constructor)⟩
         refine ⟨by omega, fun j d hj hd => ?_⟩
         by_cases hji : j = i
         ·subst hji
          rw [hc] at hd
          cases hd
          exact hB
         ·exact hok j d (by omega) hd
   ·skip
    refine aExit rfl ?_
    refine aSeq ?_
    refine aReg ?_
    refine sp pM ?_
    refine sp pMa ?_
    refine sp pMa ?_
    refine oNil ?_
    refine aRet ?_
    refine finIs rfl ?_
    obtain rfl : i = l.length := by omega
    have hE : chgsE l = 0 := chgsE_good hl1 hl40 hok
    have hR : chgsR l = chgsBs l := by unfold chgsR; rw [hE]; rfl
    rw [hE, hR, ← chgsP_all]
    rfl
end A
end Go.Proofs.YthkgdhamnpiagaaGreat
namespace Go.Proofs.YthkgdhamnpiagaaGreat
namespace A
theorem st_104 : structPlaces Tryz.prog 104 = some [(0, 1), (1, 3), (4, 1), (5, 1)] := by kernel_rfl
theorem rdLinks_ok : ∀ (k : Nat) {s : RS}, BOk s.b → BOk (rdLinks k s).2.b ∧ (rdLinks k s).2.b.length ≤ s.b.length
 | 0, s, h => ⟨h, Nat.le_refl _⟩
 | k + 1, s, h => by
   unfold rdLinks
   split
   ·exact ⟨h, Nat.le_refl _⟩
   ·have := rdLinks_ok k (RS.num_ok 4 (RS.num_ok 1 h))
    exact ⟨this.1, Nat.le_trans this.2 (Nat.le_trans (RS.num_len _ _) (RS.num_len _ _))⟩
theorem rdLsaX_ok {s : RS} (h : BOk s.b) : BOk (rdLsaX s).2.b ∧ (rdLsaX s).2.b.length ≤ s.b.length := by
 have := rdLinks_ok (((s.num 1).2.num 8).2.num 1).1 (RS.num_ok 1 (RS.num_ok 8 (RS.num_ok 1 h)))
 exact ⟨this.1, Nat.le_trans this.2 (Nat.le_trans (RS.num_len _ _) (Nat.le_trans (RS.num_len _ _) (RS.num_len _ _)))⟩
theorem rdChgX_1 {s : RS} (h : (s.num 1).1 = 1) : rdChgX s = (⟨(s.num 1).1, rdLsa (s.num 1).2, 0, 0⟩, (rdLsaX (s.num 1).2).2) := by
 unfold rdChgX
 simp only
 rw [if_pos h]
theorem rdChgX_2 {s : RS} (h : (s.num 1).1 = 2) : rdChgX s = (⟨(s.num 1).1, lsa0, toI ((s.num 1).2.num 8).1, 0⟩, ((s.num 1).2.num 8).2) := by
 unfold rdChgX
 simp only
 rw [if_neg (by omega), if_pos h]
theorem rdChgX_4 {s : RS} (h : (s.num 1).1 = 4) : rdChgX s = (⟨(s.num 1).1, lsa0, (((s.num 1).2.num 1).2.num 4).1, ((s.num 1).2.num 1).1⟩, (((s.num 1).2.num 1).2.num 4).2) := by
 unfold rdChgX
 simp only
 rw [if_neg (by omega), if_neg (by omega), if_pos h]
theorem rdChgX_3 {s : RS} (h : (s.num 1).1 = 3) : rdChgX s = (⟨(s.num 1).1, lsa0, ((s.num 1).2.num 4).1, 0⟩, ((s.num 1).2.num 4).2) := by
 unfold rdChgX
 simp only
 rw [if_neg (by omega), if_neg (by omega), if_neg (by omega), if_pos h]
theorem rdChgX_0 {s : RS} (h1 : (s.num 1).1 ≠ 1) (h2 : (s.num 1).1 ≠ 2) (h3 : (s.num 1).1 ≠ 3) (h4 : (s.num 1).1 ≠ 4) : rdChgX s = (⟨(s.num 1).1, lsa0, 0, 0⟩, (s.num 1).2) := by
 unfold rdChgX
 simp only
 rw [if_neg h1, if_neg h2, if_neg h4, if_neg h3]
theorem rdChgX_ok {s : RS} (h : BOk s.b) : BOk (rdChgX s).2.b ∧ (rdChgX s).2.b.length ≤ s.b.length := by
 have k1 := RS.num_ok 1 h
 have l1 := RS.num_len 1 s
 by_cases h1 : (s.num 1).1 = 1
 ·rw [rdChgX_1 h1]; exact ⟨(rdLsaX_ok k1).1, Nat.le_trans (rdLsaX_ok k1).2 l1⟩
 ·by_cases h2 : (s.num 1).1 = 2
  ·rw [rdChgX_2 h2]; exact ⟨RS.num_ok 8 k1, Nat.le_trans (RS.num_len _ _) l1⟩
  ·by_cases h4 : (s.num 1).1 = 4
   ·rw [rdChgX_4 h4]; exact ⟨RS.num_ok 4 (RS.num_ok 1 k1), Nat.le_trans (RS.num_len _ _) (Nat.le_trans (RS.num_len _ _) l1)⟩
   ·by_cases h3 : (s.num 1).1 = 3
    ·rw [rdChgX_3 h3]; exact ⟨RS.num_ok 4 k1, Nat.le_trans (RS.num_len _ _) l1⟩
    ·rw [rdChgX_0 h1 h2 h3 h4]; exact ⟨k1, l1⟩
/- change.read -/
def chg_read_r13_T : Bool × List (List Nat × List Nat) := (true, [([], []), ([], []), ([1], [1]), ([2], [2]), ([3, 2], [3]), ([4], [4]), ([5, 4, 4], [4, 5]), ([6, 4], [4, 6]), ([4, 7], [4, 7]), ([0, 6, 0], [0]), ([8, 9, 0, 1, 2, 3, 4, 5, 6, 7, 8, 9], [8])])
def chg_read_r13_B : List Nat := [0, 0, 2, 6, 14, 30, 62, 126, 254, 127, 1023]
theorem chg_read_r13_t : Go.Proofs.YthkgdhamnpiagaaGreatW.PrintLast.rtab .any (Go.Proofs.YthkgdhamnpiagaaGreatW.PrintLast.opsOf Tryz.f260 13) = chg_read_r13_T := by kernel_rfl
theorem chg_read_r13_b : Go.Proofs.YthkgdhamnpiagaaGreatW.PrintLast.waitsOk chg_read_r13_T.2 chg_read_r13_B = true := by kernel_rfl
set_option maxRecDepth 100000 in
set_option maxHeartbeats 4000000 in
theorem chg_read {rb : Nat} {s : RS} (hk : BOk s.b) (hb : s.b.length ≤ 1000000) : Triple Tryz.prog 260 [.v (.pointer (some ⟨rb, 0, none⟩))] [.box rb [bsA (s).b, .v (.bool (s).w)]] (Is (.tup [.agg (chgC (rdChgX s).1), .v (.bool (rdChgOk s))]) [.box rb [bsA ((rdChgX s).2).b, .v (.bool ((rdChgX s).2).w)]]) := by
 have k1 := RS.num_ok 1 hk
 have k2 := RS.num_ok 1 k1
 have l1 := RS.num_len 1 s
 have l2 := RS.num_len 1 (s.num 1).2
 have m0 := num_lt1 hk
 have m1 := num_lt8 k1
 have m2 := num_lt1 k1
 have m3 := num_lt4 k1
 have m4 := num_lt4 k2
 refine triple_ofR Tryz.func260 rfl (by kernel_rfl) rfl (by simp) ?_
 refine aSeq ?_
 refine aReg ?_
 refine sq ?_
 refine qAlloc rfl rfl (by decide) ze_104 rfl (fun b2 => ?_)
 refine sp pMa ?_
 refine oNil ?_
 refine aSeq ?_
 refine aReg ?_
 refine sp pM ?_
 refine sa ?_
 refine cai rfl rfl rfl (rd_Num (rb := rb) (s := s) (k := 1) hk (by omega) (by decide) (by decide)) ?_
 refine sp (by first | exact pCvK ik_172 ik_3 | exact pConv rfl rfl ik_172 ik_3 rfl) ?_
 refine sp (pBuild rfl st_104 ze_104 rfl rfl rfl rfl) ?_
 refine sq ?_
 refine qAlloc rfl rfl (by decide) ze_104 rfl (fun b4 => ?_)
 refine sa ?_
 refine oStW rfl rfl rfl rfl (by repeat constructor) ty_104 ?_
 refine oNil ?_
 refine aSeq ?_
 refine aSeq ?_
 refine aReg ?_
 refine sp (pFb fd_104_0) ?_
 refine sr (rB1 ty_3) ?_
 refine oNil ?_
 refine aBlock ?_
 refine aSeq ?_
 refine aBlock ?_
 refine aSeq ?_
 refine aBlock ?_
 refine aSeq ?_
 refine aBlock ?_
 refine aSeq ?_
 refine aBlock ?_
 refine aSeq ?_
 refine aSeq ?_
 refine aSeq ?_
 refine aReg ?_
 refine sp pB ?_
 refine sp pMa ?_
 refine oNil ?_
 refine aCondEq rfl (fun c13 => ?_) (fun c13 => ?_)
 ·skip
  refine aExit rfl ?_
  refine aSeq ?_
  refine aSeq ?_
  refine aReg ?_
  refine sp pM ?_
  refine sa ?_
  refine cai rfl rfl rfl (lsa_Read (rb := rb) (s := (s.num 1).2) k1 (by omega)) ?_
  refine sp pM ?_
  refine sp pX ?_
  refine sp pX ?_
  refine sq ?_
  refine qAlloc rfl rfl (by decide) ze_55 rfl (fun b5 => ?_)
  refine sa ?_
  refine oStW rfl rfl rfl rfl (by repeat constructor) ty_55 ?_
  refine sp pMa ?_
  refine oNil ?_
  refine aSeq ?_
  refine aReg ?_
  refine sr (by first | exact rBWa ty_55 | exact rBW ty_55 | exact rBA ty_55) ?_
  refine sp (pFb fd_104_1) ?_
  refine sa ?_
  refine oStB rfl rfl rfl rfl (by repeat constructor) ty_55 rfl (Nat.le_of_ble_eq_true rfl) rfl ?_
  refine oNil ?_
  refine aSeq ?_
  refine aReg ?_
  refine sr (by first | exact rBWa ty_104 | exact rBW ty_104 | exact rBA ty_104) ?_
  refine sp pM ?_
  refine sa ?_
  refine oStW rfl rfl rfl rfl (by repeat constructor) ty_104 ?_
  refine sp pMa ?_
  refine oNil ?_
  have hk1 : (s.num 1).1 = 1 := by omega
  rw [rdChgX_1 hk1, show rdChgOk s = rdLsaOk (s.num 1).2 by unfold rdChgOk; rw [if_pos hk1]]
  refine aRet ?_
  refine finRIs (l := [.agg (chgC ⟨(s.num 1).1, rdLsa (s.num 1).2, 0, 0⟩), .v (.bool (rdLsaOk (s.num 1).2))]) (.cons (.cellA rfl (by repeat (first | exact List.mem_cons_self | apply List.mem_cons_of_mem)) ty_104) (.cons (.tmp rfl) .nil)) rfl
 ·skip
  refine aSkip ?_
  refine aSeq ?_
  refine aSeq ?_
  refine aReg ?_
  refine sp pB ?_
  refine sp pMa ?_
  refine oNil ?_
  refine aCondEq rfl (fun c15 => ?_) (fun c15 => ?_)
  ·skip
   refine aExit rfl ?_
   refine aSeq ?_
   refine aReg ?_
   refine sp pM ?_
   refine sa ?_
   refine cai rfl rfl rfl (rd_Num (rb := rb) (s := (s.num 1).2) (k := 8) k1 (by omega) (by decide) (by decide)) ?_
   refine sp (pConv (n' := toI ((s.num 1).2.num 8).1) rfl rfl ik_172 ik_3 (toI_wrap (by omega))) ?_
   refine sp (pFb fd_104_2) ?_
   refine sa ?_
   refine oStB rfl rfl rfl rfl (by repeat constructor) ty_3 rfl (Nat.le_of_ble_eq_true rfl) rfl ?_
   refine oNil ?_
   refine aExit rfl ?_
   refine aSeq ?_
   refine aWeak (weak_castB (b := b4) (cs' := chgC (rdChgX s).1) (by repeat constructor) (by first | (rw [rdChgX_2 (by omega)]; exact (.cons .refl (.cons .refl (.cons .refl (.cons cast_nil (.cons .refl (.cons .refl .nil))))))) | (rw [rdChgX_4 (by omega)]; exact (.cons .refl (.cons .refl (.cons .refl (.cons cast_nil (.cons .refl (.cons .refl .nil))))))) | (rw [rdChgX_3 (by omega)]; exact (.cons .refl (.cons .refl (.cons .refl (.cons cast_nil (.cons .refl (.cons .refl .nil))))))) | (rw [rdChgX_0 (by omega) (by omega) (by omega) (by omega)]; exact (.cons .refl (.cons .refl (.cons .refl (.cons cast_nil (.cons .refl (.cons .refl .nil))))))))) ?_
   refine aWeak (weak_box (b := rb) (cs' := [bsA (rdChgX s).2.b, .v (.bool (rdChgX s).2.w)]) (by repeat constructor) (by first | (rw [rdChgX_2 (by omega)] <;> rfl) | (rw [rdChgX_4 (by omega)] <;> rfl) | (rw [rdChgX_3 (by omega)] <;> rfl) | (rw [rdChgX_0 (by omega) (by omega) (by omega) (by omega)] <;> rfl))) ?_
   refine aDrawS (h1 := [.box b4 _]) chg_read_r13_t chg_read_r13_b [9] 11 #[false, false, false, false, false, false, false, false, false, false, false] (by kernel_rfl) rfl rfl (.cons (by repeat constructor) .nil) (fun HT => ?_)
   refine er HT 0 rfl (by first | exact rBWa ty_104 | exact rBW ty_104 | exact rBA ty_104) ?_
   refine ep HT 1 rfl pM ?_
   refine eOneS (i := 2) #[true, true, true, false, false, false, false, false, false, false, false] rfl (HT.one (by kernel_rfl)) (by decide) ?_
   ·skip
    refine stA (hx := [.box rb [bsA ((rdChgX s).2).b, .v (.bool ((rdChgX s).2).w)]]) (wantN rfl) (fun t ht => by cases ht <;> decide) (.cons (by repeat constructor) .nil) (by repeat constructor) ?_
    refine cai rfl rfl rfl (rd_Wrong (rb := rb) (s := (rdChgX s).2)) ?_
    refine undel (d := 44) rfl ?_
    try dsimp only [List.cons_append, List.nil_append]
    refine ef HT 3 rfl pNo ?_
    refine ef HT 4 rfl pM ?_
    refine eSplitNot 46 rfl (fun c46 => ?_) (fun c46 => ?_)
    ·skip
     refine erG HT 5 rfl (by first | exact rBWa ty_104 | exact rBW ty_104 | exact rBA ty_104) ?_
     refine e1G HT 6 rfl ?_
     refine ci rfl rfl rfl (chg_Check (c := (rdChgX s).1)) ?_
     refine efG HT 7 rfl pB ?_
     refine ef HT 8 rfl pK ?_
     refine eLast ?_
     refine f1 HT 9 rfl ?_
     refine oStW rfl rfl rfl rfl (by repeat constructor) ty_104 ?_
     refine fp HT 10 rfl pMa ?_
     refine fE HT ?_
     clear HT
     have hk1 : (s.num 1).1 ≠ 1 := by omega
     have hO : rdChgOk s = (!(rdChgX s).2.w && okC (rdChgX s).1) := by unfold rdChgOk; rw [if_neg hk1]
     refine aRet ?_
     refine finRIs (l := [.agg (chgC (rdChgX s).1), _]) (.cons (.cellA rfl (by repeat (first | exact List.mem_cons_self | apply List.mem_cons_of_mem)) ty_104) (.cons (.tmp rfl) .nil)) (by rw [hO]; first | (simp_all [retOf]; done) | (simp_all [retOf]; cases okC (rdChgX s).1 <;> rfl))
    ·skip
     refine eS HT 5 rfl ?_
     refine eS HT 6 rfl ?_
     refine eS HT 7 rfl ?_
     refine ef HT 8 rfl pK ?_
     refine eLast ?_
     refine f1 HT 9 rfl ?_
     refine oStW rfl rfl rfl rfl (by repeat constructor) ty_104 ?_
     refine fp HT 10 rfl pMa ?_
     refine fE HT ?_
     clear HT
     have hk1 : (s.num 1).1 ≠ 1 := by omega
     have hO : rdChgOk s = (!(rdChgX s).2.w && okC (rdChgX s).1) := by unfold rdChgOk; rw [if_neg hk1]
     refine aRet ?_
     refine finRIs (l := [.agg (chgC (rdChgX s).1), _]) (.cons (.cellA rfl (by repeat (first | exact List.mem_cons_self | apply List.mem_cons_of_mem)) ty_104) (.cons (.tmp rfl) .nil)) (by rw [hO]; first | (simp_all [retOf]; done) | (simp_all [retOf]; cases okC (rdChgX s).1 <;> rfl))
  ·skip
   refine aSkip ?_
   refine aSeq ?_
   refine aSeq ?_
   refine aReg ?_
   refine sp pB ?_
   refine sp pMa ?_
   refine oNil ?_
   refine aCondEq rfl (fun c17 => ?_) (fun c17 => ?_)
   ·skip
    refine aExit rfl ?_
    refine aReg ?_
    refine sp pM ?_
    refine sa ?_
    refine cai rfl rfl rfl (rd_Num (rb := rb) (s := (s.num 1).2) (k := 1) k1 (by omega) (by decide) (by decide)) ?_
    refine sp (by first | exact pCvK ik_172 ik_3 | exact pConv rfl rfl ik_172 ik_3 rfl) ?_
    refine sp (pFb fd_104_3) ?_
    refine sa ?_
    refine oStB rfl rfl rfl rfl (by repeat constructor) ty_3 rfl (Nat.le_of_ble_eq_true rfl) rfl ?_
    refine oNil ?_
    refine aSeq ?_
    refine aReg ?_
    refine sp pM ?_
    refine sa ?_
    first | refine cai rfl rfl rfl (rd_Num (rb := rb) (s := ((s.num 1).2.num 1).2) (k := 4) k2 (by omega) (by decide) (by decide)) ?_ | refine cai rfl rfl rfl (rd_Num (rb := rb) (s := (s.num 1).2) (k := 4) k1 (by omega) (by decide) (by decide)) ?_
    refine sp (by first | exact pCvK ik_172 ik_3 | exact pConv rfl rfl ik_172 ik_3 rfl) ?_
    refine sp (pFb fd_104_2) ?_
    refine sa ?_
    refine oStB rfl rfl rfl rfl (by repeat constructor) ty_3 rfl (Nat.le_of_ble_eq_true rfl) rfl ?_
    refine oNil ?_
    refine aExit rfl ?_
    refine aSeq ?_
    refine aWeak (weak_castB (b := b4) (cs' := chgC (rdChgX s).1) (by repeat constructor) (by first | (rw [rdChgX_2 (by omega)]; exact (.cons .refl (.cons .refl (.cons .refl (.cons cast_nil (.cons .refl (.cons .refl .nil))))))) | (rw [rdChgX_4 (by omega)]; exact (.cons .refl (.cons .refl (.cons .refl (.cons cast_nil (.cons .refl (.cons .refl .nil))))))) | (rw [rdChgX_3 (by omega)]; exact (.cons .refl (.cons .refl (.cons .refl (.cons cast_nil (.cons .refl (.cons .refl .nil))))))) | (rw [rdChgX_0 (by omega) (by omega) (by omega) (by omega)]; exact (.cons .refl (.cons .refl (.cons .refl (.cons cast_nil (.cons .refl (.cons .refl .nil))))))))) ?_
    refine aWeak (weak_box (b := rb) (cs' := [bsA (rdChgX s).2.b, .v (.bool (rdChgX s).2.w)]) (by repeat constructor) (by first | (rw [rdChgX_2 (by omega)] <;> rfl) | (rw [rdChgX_4 (by omega)] <;> rfl) | (rw [rdChgX_3 (by omega)] <;> rfl) | (rw [rdChgX_0 (by omega) (by omega) (by omega) (by omega)] <;> rfl))) ?_
    refine aDrawS (h1 := [.box b4 _]) chg_read_r13_t chg_read_r13_b [9] 11 #[false, false, false, false, false, false, false, false, false, false, false] (by kernel_rfl) rfl rfl (.cons (by repeat constructor) .nil) (fun HT => ?_)
    refine er HT 0 rfl (by first | exact rBWa ty_104 | exact rBW ty_104 | exact rBA ty_104) ?_
    refine ep HT 1 rfl pM ?_
    refine eOneS (i := 2) #[true, true, true, false, false, false, false, false, false, false, false] rfl (HT.one (by kernel_rfl)) (by decide) ?_
    ·skip
     refine stA (hx := [.box rb [bsA ((rdChgX s).2).b, .v (.bool ((rdChgX s).2).w)]]) (wantN rfl) (fun t ht => by cases ht <;> decide) (.cons (by repeat constructor) .nil) (by repeat constructor) ?_
     refine cai rfl rfl rfl (rd_Wrong (rb := rb) (s := (rdChgX s).2)) ?_
     refine undel (d := 44) rfl ?_
     try dsimp only [List.cons_append, List.nil_append]
     refine ef HT 3 rfl pNo ?_
     refine ef HT 4 rfl pM ?_
     refine eSplitNot 46 rfl (fun c46 => ?_) (fun c46 => ?_)
     ·skip
      refine erG HT 5 rfl (by first | exact rBWa ty_104 | exact rBW ty_104 | exact rBA ty_104) ?_
      refine e1G HT 6 rfl ?_
      refine ci rfl rfl rfl (chg_Check (c := (rdChgX s).1)) ?_
      refine efG HT 7 rfl pB ?_
      refine ef HT 8 rfl pK ?_
      refine eLast ?_
      refine f1 HT 9 rfl ?_
      refine oStW rfl rfl rfl rfl (by repeat constructor) ty_104 ?_
      refine fp HT 10 rfl pMa ?_
      refine fE HT ?_
      clear HT
      have hk1 : (s.num 1).1 ≠ 1 := by omega
      have hO : rdChgOk s = (!(rdChgX s).2.w && okC (rdChgX s).1) := by unfold rdChgOk; rw [if_neg hk1]
      refine aRet ?_
      refine finRIs (l := [.agg (chgC (rdChgX s).1), _]) (.cons (.cellA rfl (by repeat (first | exact List.mem_cons_self | apply List.mem_cons_of_mem)) ty_104) (.cons (.tmp rfl) .nil)) (by rw [hO]; first | (simp_all [retOf]; done) | (simp_all [retOf]; cases okC (rdChgX s).1 <;> rfl))
     ·skip
      refine eS HT 5 rfl ?_
      refine eS HT 6 rfl ?_
      refine eS HT 7 rfl ?_
      refine ef HT 8 rfl pK ?_
      refine eLast ?_
      refine f1 HT 9 rfl ?_
      refine oStW rfl rfl rfl rfl (by repeat constructor) ty_104 ?_
      refine fp HT 10 rfl pMa ?_
      refine fE HT ?_
      clear HT
      have hk1 : (s.num 1).1 ≠ 1 := by omega
      have hO : rdChgOk s = (!(rdChgX s).2.w && okC (rdChgX s).1) := by unfold rdChgOk; rw [if_neg hk1]
      refine aRet ?_
      refine finRIs (l := [.agg (chgC (rdChgX s).1), _]) (.cons (.cellA rfl (by repeat (first | exact List.mem_cons_self | apply List.mem_cons_of_mem)) ty_104) (.cons (.tmp rfl) .nil)) (by rw [hO]; first | (simp_all [retOf]; done) | (simp_all [retOf]; cases okC (rdChgX s).1 <;> rfl))
   ·skip
    refine aSkip ?_
    refine aSeq ?_
    refine aReg ?_
    refine sp pB ?_
    refine sp pMa ?_
    refine oNil ?_
    refine aCondEq rfl (fun c19 => ?_) (fun c19 => ?_)
    ·skip
     refine aExit rfl ?_
     refine aSeq ?_
     refine aReg ?_
     refine sp pM ?_
     refine sa ?_
     first | refine cai rfl rfl rfl (rd_Num (rb := rb) (s := ((s.num 1).2.num 1).2) (k := 4) k2 (by omega) (by decide) (by decide)) ?_ | refine cai rfl rfl rfl (rd_Num (rb := rb) (s := (s.num 1).2) (k := 4) k1 (by omega) (by decide) (by decide)) ?_
     refine sp (by first | exact pCvK ik_172 ik_3 | exact pConv rfl rfl ik_172 ik_3 rfl) ?_
     refine sp (pFb fd_104_2) ?_
     refine sa ?_
     refine oStB rfl rfl rfl rfl (by repeat constructor) ty_3 rfl (Nat.le_of_ble_eq_true rfl) rfl ?_
     refine oNil ?_
     refine aExit rfl ?_
     refine aSeq ?_
     refine aWeak (weak_castB (b := b4) (cs' := chgC (rdChgX s).1) (by repeat constructor) (by first | (rw [rdChgX_2 (by omega)]; exact (.cons .refl (.cons .refl (.cons .refl (.cons cast_nil (.cons .refl (.cons .refl .nil))))))) | (rw [rdChgX_4 (by omega)]; exact (.cons .refl (.cons .refl (.cons .refl (.cons cast_nil (.cons .refl (.cons .refl .nil))))))) | (rw [rdChgX_3 (by omega)]; exact (.cons .refl (.cons .refl (.cons .refl (.cons cast_nil (.cons .refl (.cons .refl .nil))))))) | (rw [rdChgX_0 (by omega) (by omega) (by omega) (by omega)]; exact (.cons .refl (.cons .refl (.cons .refl (.cons cast_nil (.cons .refl (.cons .refl .nil))))))))) ?_
     refine aWeak (weak_box (b := rb) (cs' := [bsA (rdChgX s).2.b, .v (.bool (rdChgX s).2.w)]) (by repeat constructor) (by first | (rw [rdChgX_2 (by omega)] <;> rfl) | (rw [rdChgX_4 (by omega)] <;> rfl) | (rw [rdChgX_3 (by omega)] <;> rfl) | (rw [rdChgX_0 (by omega) (by omega) (by omega) (by omega)] <;> rfl))) ?_
     refine aDrawS (h1 := [.box b4 _]) chg_read_r13_t chg_read_r13_b [9] 11 #[false, false, false, false, false, false, false, false, false, false, false] (by kernel_rfl) rfl rfl (.cons (by repeat constructor) .nil) (fun HT => ?_)
     refine er HT 0 rfl (by first | exact rBWa ty_104 | exact rBW ty_104 | exact rBA ty_104) ?_
     refine ep HT 1 rfl pM ?_
     refine eOneS (i := 2) #[true, true, true, false, false, false, false, false, false, false, false] rfl (HT.one (by kernel_rfl)) (by decide) ?_
     ·skip
      refine stA (hx := [.box rb [bsA ((rdChgX s).2).b, .v (.bool ((rdChgX s).2).w)]]) (wantN rfl) (fun t ht => by cases ht <;> decide) (.cons (by repeat constructor) .nil) (by repeat constructor) ?_
      refine cai rfl rfl rfl (rd_Wrong (rb := rb) (s := (rdChgX s).2)) ?_
      refine undel (d := 44) rfl ?_
      try dsimp only [List.cons_append, List.nil_append]
      refine ef HT 3 rfl pNo ?_
      refine ef HT 4 rfl pM ?_
      refine eSplitNot 46 rfl (fun c46 => ?_) (fun c46 => ?_)
      ·skip
       refine erG HT 5 rfl (by first | exact rBWa ty_104 | exact rBW ty_104 | exact rBA ty_104) ?_
       refine e1G HT 6 rfl ?_
       refine ci rfl rfl rfl (chg_Check (c := (rdChgX s).1)) ?_
       refine efG HT 7 rfl pB ?_
       refine ef HT 8 rfl pK ?_
       refine eLast ?_
       refine f1 HT 9 rfl ?_
       refine oStW rfl rfl rfl rfl (by repeat constructor) ty_104 ?_
       refine fp HT 10 rfl pMa ?_
       refine fE HT ?_
       clear HT
       have hk1 : (s.num 1).1 ≠ 1 := by omega
       have hO : rdChgOk s = (!(rdChgX s).2.w && okC (rdChgX s).1) := by unfold rdChgOk; rw [if_neg hk1]
       refine aRet ?_
       refine finRIs (l := [.agg (chgC (rdChgX s).1), _]) (.cons (.cellA rfl (by repeat (first | exact List.mem_cons_self | apply List.mem_cons_of_mem)) ty_104) (.cons (.tmp rfl) .nil)) (by rw [hO]; first | (simp_all [retOf]; done) | (simp_all [retOf]; cases okC (rdChgX s).1 <;> rfl))
      ·skip
       refine eS HT 5 rfl ?_
       refine eS HT 6 rfl ?_
       refine eS HT 7 rfl ?_
       refine ef HT 8 rfl pK ?_
       refine eLast ?_
       refine f1 HT 9 rfl ?_
       refine oStW rfl rfl rfl rfl (by repeat constructor) ty_104 ?_
       refine fp HT 10 rfl pMa ?_
       refine fE HT ?_
       clear HT
       have hk1 : (s.num 1).1 ≠ 1 := by omega
       have hO : rdChgOk s = (!(rdChgX s).2.w && okC (rdChgX s).1) := by unfold rdChgOk; rw [if_neg hk1]
       refine aRet ?_
       refine finRIs (l := [.agg (chgC (rdChgX s).1), _]) (.cons (.cellA rfl (by repeat (first | exact List.mem_cons_self | apply List.mem_cons_of_mem)) ty_104) (.cons (.tmp rfl) .nil)) (by rw [hO]; first | (simp_all [retOf]; done) | (simp_all [retOf]; cases okC (rdChgX s).1 <;> rfl))
    ·skip
     refine aSkip ?_
     refine aExit rfl ?_
     refine aSeq ?_
     refine aWeak (weak_castB (b := b4) (cs' := chgC (rdChgX s).1) (by repeat constructor) (by first | (rw [rdChgX_2 (by omega)]; exact (.cons .refl (.cons .refl (.cons .refl (.cons cast_nil (.cons .refl (.cons .refl .nil))))))) | (rw [rdChgX_4 (by omega)]; exact (.cons .refl (.cons .refl (.cons .refl (.cons cast_nil (.cons .refl (.cons .refl .nil))))))) | (rw [rdChgX_3 (by omega)]; exact (.cons .refl (.cons .refl (.cons .refl (.cons cast_nil (.cons .refl (.cons .refl .nil))))))) | (rw [rdChgX_0 (by omega) (by omega) (by omega) (by omega)]; exact (.cons .refl (.cons .refl (.cons .refl (.cons cast_nil (.cons .refl (.cons .refl .nil))))))))) ?_
     refine aWeak (weak_box (b := rb) (cs' := [bsA (rdChgX s).2.b, .v (.bool (rdChgX s).2.w)]) (by repeat constructor) (by first | (rw [rdChgX_2 (by omega)] <;> rfl) | (rw [rdChgX_4 (by omega)] <;> rfl) | (rw [rdChgX_3 (by omega)] <;> rfl) | (rw [rdChgX_0 (by omega) (by omega) (by omega) (by omega)] <;> rfl))) ?_
     refine aDrawS (h1 := [.box b4 _]) chg_read_r13_t chg_read_r13_b [9] 11 #[false, false, false, false, false, false, false, false, false, false, false] (by kernel_rfl) rfl rfl (.cons (by repeat constructor) .nil) (fun HT => ?_)
     refine er HT 0 rfl (by first | exact rBWa ty_104 | exact rBW ty_104 | exact rBA ty_104) ?_
     refine ep HT 1 rfl pM ?_
     refine eOneS (i := 2) #[true, true, true, false, false, false, false, false, false, false, false] rfl (HT.one (by kernel_rfl)) (by decide) ?_
     ·skip
      refine stA (hx := [.box rb [bsA ((rdChgX s).2).b, .v (.bool ((rdChgX s).2).w)]]) (wantN rfl) (fun t ht => by cases ht <;> decide) (.cons (by repeat constructor) .nil) (by repeat constructor) ?_
      refine cai rfl rfl rfl (rd_Wrong (rb := rb) (s := (rdChgX s).2)) ?_
      refine undel (d := 44) rfl ?_
      try dsimp only [List.cons_append, List.nil_append]
      refine ef HT 3 rfl pNo ?_
      refine ef HT 4 rfl pM ?_
      refine eSplitNot 46 rfl (fun c46 => ?_) (fun c46 => ?_)
      ·skip
       refine erG HT 5 rfl (by first | exact rBWa ty_104 | exact rBW ty_104 | exact rBA ty_104) ?_
       refine e1G HT 6 rfl ?_
       refine ci rfl rfl rfl (chg_Check (c := (rdChgX s).1)) ?_
       refine efG HT 7 rfl pB ?_
       refine ef HT 8 rfl pK ?_
       refine eLast ?_
       refine f1 HT 9 rfl ?_
       refine oStW rfl rfl rfl rfl (by repeat constructor) ty_104 ?_
       refine fp HT 10 rfl pMa ?_
       refine fE HT ?_
       clear HT
       have hk1 : (s.num 1).1 ≠ 1 := by omega
       have hO : rdChgOk s = (!(rdChgX s).2.w && okC (rdChgX s).1) := by unfold rdChgOk; rw [if_neg hk1]
       refine aRet ?_
       refine finRIs (l := [.agg (chgC (rdChgX s).1), _]) (.cons (.cellA rfl (by repeat (first | exact List.mem_cons_self | apply List.mem_cons_of_mem)) ty_104) (.cons (.tmp rfl) .nil)) (by rw [hO]; first | (simp_all [retOf]; done) | (simp_all [retOf]; cases okC (rdChgX s).1 <;> rfl))
      ·skip
       refine eS HT 5 rfl ?_
       refine eS HT 6 rfl ?_
       refine eS HT 7 rfl ?_
       refine ef HT 8 rfl pK ?_
       refine eLast ?_
       refine f1 HT 9 rfl ?_
       refine oStW rfl rfl rfl rfl (by repeat constructor) ty_104 ?_
       refine fp HT 10 rfl pMa ?_
       refine fE HT ?_
       clear HT
       have hk1 : (s.num 1).1 ≠ 1 := by omega
       have hO : rdChgOk s = (!(rdChgX s).2.w && okC (rdChgX s).1) := by unfold rdChgOk; rw [if_neg hk1]
       refine aRet ?_
       refine finRIs (l := [.agg (chgC (rdChgX s).1), _]) (.cons (.cellA rfl (by repeat (first | exact List.mem_cons_self | apply List.mem_cons_of_mem)) ty_104) (.cons (.tmp rfl) .nil)) (by rw [hO]; first | (simp_all [retOf]; done) | (simp_all [retOf]; cases okC (rdChgX s).1 <;> rfl))
end A
end Go.Proofs.YthkgdhamnpiagaaGreat
namespace Go.Proofs.YthkgdhamnpiagaaGreat
namespace A
theorem el_105 : elemOf Tryz.prog 105 = some (104, 6, 64) := by kernel_rfl
theorem us_105 : Tryz.prog.underlying 105 = some (.slice 104) := by kernel_rfl
theorem rdChgs_yes {k : Nat} {s : RS} (h : rdChgOk s = true) : rdChgs (k + 1) s = ((rdChgX s).1 :: (rdChgs k (rdChgX s).2).1, (rdChgs k (rdChgX s).2).2) := by
 rw [rdChgs, if_pos h]
theorem rdChgs_no {k : Nat} {s : RS} (h : rdChgOk s = false) : rdChgs (k + 1) s = ([], (rdChgX s).2, false) := by
 rw [rdChgs, if_neg (by rw [h]; decide)]
theorem rdChgs_len : ∀ (k : Nat) (s : RS), (rdChgs k s).1.length ≤ k
 | 0, s => Nat.le_refl _
 | k + 1, s => by
   cases h : rdChgOk s with
   | true => rw [rdChgs_yes h]; have := rdChgs_len k (rdChgX s).2; simp only [List.length_cons]; omega
   | false => rw [rdChgs_no h]; simp
def getE (o : Option (List Chg)) : Int := if o.isSome then 0 else 2
/- change.Get -/
set_option maxRecDepth 100000 in
set_option maxHeartbeats 4000000 in
theorem chg_Get {b : BS} (hb : b.length ≤ 900000) (hk : BOk b) : Triple Tryz.prog 163 [.sl 1 (b.map by1)] [] (Is (.tup [.sl 6 (((getCs b).getD []).map chgC), .int (getE (getCs b))]) []) := by
 have k1 : BOk (RS.num 1 (⟨b, false⟩ : RS)).2.b := RS.num_ok 1 (s := (⟨b, false⟩ : RS)) hk
 have l1 : (RS.num 1 (⟨b, false⟩ : RS)).2.b.length ≤ b.length := RS.num_len 1 (⟨b, false⟩ : RS)
 have m0 : (RS.num 1 (⟨b, false⟩ : RS)).1 < 256 := num_lt1 (s := (⟨b, false⟩ : RS)) hk
 refine triple_of Tryz.func163 rfl (by kernel_rfl) rfl (by simp) ?_
 refine aSeq ?_
 refine aReg ?_
 refine sp pMa ?_
 refine sp pMa ?_
 refine oNil ?_
 refine aSeq ?_
 refine aReg ?_
 refine sp pM ?_
 refine sa ?_
 refine ca rfl rfl rfl (rd_Read (b := b) (by omega)) ?_
 rintro _ _ ⟨rb, rfl, rfl⟩
 refine sp pMa ?_
 refine oNil ?_
 refine aSeq ?_
 refine aReg ?_
 refine sp pM ?_
 refine sa ?_
 refine cai rfl rfl rfl (rd_Num (rb := rb) (s := (⟨b, false⟩ : RS)) (k := 1) hk (by show b.length ≤ 1000000; omega) (by decide) (by decide)) ?_
 refine sp (by first | exact pCvK ik_172 ik_3 | exact pConv rfl rfl ik_172 ik_3 rfl) ?_
 refine sp pMa ?_
 refine oNil ?_
 refine aSeq ?_
 refine aSeq ?_
 refine aReg ?_
 refine sp pM ?_
 refine sq ?_
 refine cv rfl rfl rfl (lents_refl _) chg_within ?_
 refine sp pNo ?_
 refine oNil ?_
 refine aCondNot rfl (fun c16 => ?_) (fun c16 => ?_)
 ·skip
  refine aSeq ?_
  refine aReg ?_
  refine sp pMa ?_
  refine sp pMa ?_
  refine oNil ?_
  have hir : inr ((RS.num 1 (⟨b, false⟩ : RS)).1 : Int) 1 40 = false := by simp_all
  rw [inr_eq, Bool.and_eq_false_iff, decide_eq_false_iff_not, decide_eq_false_iff_not] at hir
  have hG : getCs b = none := by
    unfold getCs
    simp only
    rw [if_pos (by omega)]
  rw [hG]
  refine aWeak (weak_cast (k := 2) (b := .sl 6 []) rfl cast_nil) ?_
  refine aRet ?_
  exact finIs rfl rfl
 ·skip
  refine aSkip ?_
  refine aSeq ?_
  have hn : 1 ≤ (RS.num 1 (⟨b, false⟩ : RS)).1 ∧ (RS.num 1 (⟨b, false⟩ : RS)).1 ≤ 40 := by
    have hir : inr ((RS.num 1 (⟨b, false⟩ : RS)).1 : Int) 1 40 = true := by simp_all
    rw [inr_eq, Bool.and_eq_true, decide_eq_true_eq, decide_eq_true_eq] at hir
    omega
  refine aWeak (weak_nil 104 6) ?_
  refine aReg ?_
  refine sp pMa ?_
  refine oNil ?_
  refine aSeq ?_
  refine aSeq ?_
  refine aReg ?_
  refine sp pM ?_
  refine sp pM ?_
  refine oNil ?_
  refine aBlock ?_
  refine loopF (α := Nat × List Chg × RS × Option Nat × Nat) (kept := [(4, _), (17, _)]) (fun (i, out, r, g, c) => i ≤ (RS.num 1 (⟨b, false⟩ : RS)).1 ∧ out.length ≤ i ∧ BOk r.b ∧ r.b.length ≤ 1000000 ∧ rdChgs (RS.num 1 (⟨b, false⟩ : RS)).1 (RS.num 1 (⟨b, false⟩ : RS)).2 = (out ++ (rdChgs ((RS.num 1 (⟨b, false⟩ : RS)).1 - i) r).1, (rdChgs ((RS.num 1 (⟨b, false⟩ : RS)).1 - i) r).2)) (fun (i, out, r, g, c) => [(18, .int i), (6, .v (slV g out.length c))]) (fun (i, out, r, g, c) => [.sl g c 104 6 (out.map chgC), .box rb [bsA (r).b, .v (.bool (r).w)]]) (fun (i, out, r, g, c) => (RS.num 1 (⟨b, false⟩ : RS)).1 - i) (0, [], (RS.num 1 (⟨b, false⟩ : RS)).2, _, _) ?_ ⟨gInt rfl (by first | rfl | omega | simp), gLen rfl (by first | rfl | simp | (simp; omega)), rfl, rfl, trivial⟩ (by repeat constructor) ?_
  ·skip
   exact ⟨by omega, by simp, k1, by show (RS.num 1 (⟨b, false⟩ : RS)).2.b.length ≤ 1000000; omega, by simp⟩
  ·rintro ⟨i, out, r, g, c⟩ ⟨hi, hol, hrk, hrb, hv⟩
   refine aSeq ?_
   refine aReg ?_
   refine sp pB ?_
   refine oNil ?_
   refine aSeq ?_
   refine aCondDec rfl (fun c19 => ?_) (fun c19 => ?_)
   ·skip
    refine aSkip ?_
    refine aSeq ?_
    refine aBlock ?_
    refine aSeq ?_
    refine aReg ?_
    refine sp pM ?_
    refine sa ?_
    refine cai rfl rfl rfl (chg_read (rb := rb) (s := r) hrk hrb) ?_
    refine sp pM ?_
    refine sp pX ?_
    refine sp pX ?_
    refine sq ?_
    refine qAlloc rfl rfl (by decide) ze_104 rfl (fun b7 => ?_)
    refine sa ?_
    refine oStW rfl rfl rfl rfl (by repeat constructor) ty_104 ?_
    refine sp pMa ?_
    refine oNil ?_
    refine aSeq ?_
    refine aSeq ?_
    refine aReg ?_
    refine sp pM ?_
    refine sp pNo ?_
    refine oNil ?_
    refine aCondNot rfl (fun c26 => ?_) (fun c26 => ?_)
    ·skip
     refine aSeq ?_
     refine aReg ?_
     refine sp pMa ?_
     refine sp pMa ?_
     refine oNil ?_
     have hro : rdChgOk r = false := by simp_all
     have hst := rdChgs_no (k := (RS.num 1 (⟨b, false⟩ : RS)).1 - i - 1) hro
     rw [show (RS.num 1 (⟨b, false⟩ : RS)).1 - i - 1 + 1 = (RS.num 1 (⟨b, false⟩ : RS)).1 - i by omega] at hst
     rw [hst] at hv
     have hG : getCs b = none := by
       unfold getCs
       simp only
       rw [if_neg (by omega), hv]
       simp
     rw [hG]
     refine aWeak (weak_cast (k := 2) (b := .sl 6 []) rfl cast_nil) ?_
     refine aRet ?_
     exact finIs rfl rfl
    ·skip
     refine aSkip ?_
     have hro : rdChgOk r = true := by simp_all
     have hst := rdChgs_yes (k := (RS.num 1 (⟨b, false⟩ : RS)).1 - i - 1) hro
     rw [show (RS.num 1 (⟨b, false⟩ : RS)).1 - i - 1 + 1 = (RS.num 1 (⟨b, false⟩ : RS)).1 - i by omega] at hst
     refine aReg ?_
     refine sp pM ?_
     refine sr (by first | exact rBWa ty_104 | exact rBW ty_104 | exact rBA ty_104) ?_
     refine sq ?_
     refine qLit (l := [_]) rfl rfl (by decide) us_105 ty_104 ze_104 rfl (by decide) (by decide) rfl rfl rfl (fun b29 => ?_)
     refine sa ?_
     refine oAppT [_] rfl rfl (by repeat constructor) (srcOwn rfl (by repeat constructor) rfl) el_105 sl_105 (fun g30 k30 => ?_)
     refine sp pMa ?_
     refine oNil ?_
     refine aReg ?_
     refine sp pAd ?_
     refine sp pM ?_
     refine oNil ?_
     refine ⟨(i + 1, _, (rdChgX r).2, _, _), ?_, by (try dsimp only); omega, ⟨gInt rfl (by first | rfl | omega | simp), gLen rfl (by first | rfl | simp | (simp; omega)), rfl, rfl, trivial⟩, _, (by repeat constructor)⟩
     refine ⟨by omega, by rw [List.length_append]; simp only [List.length_cons, List.length_nil]; omega, (rdChgX_ok hrk).1, Nat.le_trans (rdChgX_ok hrk).2 hrb, ?_⟩
     rw [hv, hst, show (RS.num 1 (⟨b, false⟩ : RS)).1 - i - 1 = (RS.num 1 (⟨b, false⟩ : RS)).1 - (i + 1) by omega, List.append_assoc]
     rfl
   ·skip
    refine aExit rfl ?_
    refine aSeq ?_
    refine aSeq ?_
    obtain rfl : i = (RS.num 1 (⟨b, false⟩ : RS)).1 := by omega
    rw [Nat.sub_self, show rdChgs 0 r = ([], r, true) from rfl, List.append_nil] at hv
    refine aReg ?_
    refine sp pM ?_
    refine sa ?_
    refine cai rfl rfl rfl (rd_Done (rb := rb) (s := r)) ?_
    refine sp pNo ?_
    refine oNil ?_
    refine aCondNot rfl (fun c34 => ?_) (fun c34 => ?_)
    ·skip
     refine aSeq ?_
     refine aReg ?_
     refine sp pMa ?_
     refine sp pMa ?_
     refine oNil ?_
     have hG : getCs b = none := by
       unfold getCs
       simp only
       rw [if_neg (by omega), hv]
       simp only
       rw [if_neg (by simp_all)]
     rw [hG]
     refine aWeak (weak_cast (k := 2) (b := .sl 6 []) rfl cast_nil) ?_
     refine aRet ?_
     exact finIs rfl rfl
    ·skip
     refine aSkip ?_
     refine aSeq ?_
     refine aReg ?_
     refine sp pM ?_
     refine sp pMa ?_
     refine sp pMa ?_
     refine oNil ?_
     have hG : getCs b = some out := by
       unfold getCs
       simp only
       rw [if_neg (by omega), hv]
       simp only
       rw [if_pos (by simp_all)]
     rw [hG]
     refine aWeak (weak_settle (k := 2) rfl (by repeat constructor) (by simp)) ?_
     refine aRet ?_
     exact finIs rfl rfl
end A
end Go.Proofs.YthkgdhamnpiagaaGreat
namespace Go.Proofs.YthkgdhamnpiagaaGreat
namespace A
theorem es_32 : elemSize Tryz.prog 32 = some 3 := by kernel_rfl
theorem es_33 : elemSize Tryz.prog 33 = some 2 := by kernel_rfl
theorem fd_132_0 : fieldOf Tryz.prog 132 0 = some (0, 1, false) := by kernel_rfl
theorem fd_132_1 : fieldOf Tryz.prog 132 1 = some (1, 1, false) := by kernel_rfl
theorem fd_35_0 : fieldOf Tryz.prog 35 0 = some (0, 1, false) := by kernel_rfl
theorem fd_35_1 : fieldOf Tryz.prog 35 1 = some (1, 1, false) := by kernel_rfl
theorem fd_35_2 : fieldOf Tryz.prog 35 2 = some (2, 1, false) := by kernel_rfl
theorem fd_35_3 : fieldOf Tryz.prog 35 3 = some (3, 1, false) := by kernel_rfl
theorem sl_32 : isSl Tryz.prog 32 = true := by kernel_rfl
theorem sl_33 : isSl Tryz.prog 33 = true := by kernel_rfl
theorem ty_132 : tyOf Tryz.prog 132 = some (2, true) := by kernel_rfl
theorem ty_32 : tyOf Tryz.prog 32 = some (1, false) := by kernel_rfl
theorem ty_33 : tyOf Tryz.prog 33 = some (1, false) := by kernel_rfl
theorem ty_35 : tyOf Tryz.prog 35 = some (4, true) := by kernel_rfl
theorem ze_132 : zeroOf Tryz.prog 132 = some (.agg #[.int .i64 0, .int .i64 0]) := by kernel_rfl
theorem eps_step {last : Int} {l : List Ep} {i : Nat} {x : Ep} (h : l[i]? = some x) : epsB last (l.drop i) = ((decide (last < x.o) && (decide (x.o ≤ 64) && inr x.n 1 1073741824)) && epsB x.o (l.drop (i + 1))) := by
 rw [drop_step h]
 rfl
theorem okS_iff {s : St} : okS s = true ↔ (0 ≤ s.upto ∧ s.upto ≤ 4611686018427387904) ∧ (0 ≤ s.boot ∧ s.boot ≤ 1073741824) ∧ lsdbB 0 s.db = true ∧ epsB 0 s.eps = true := by
 unfold okS inr
 simp only [Bool.and_eq_true, decide_eq_true_eq]
theorem eps_len : ∀ {l : List Ep} {last : Int}, 0 ≤ last → epsB last l = true → last + l.length ≤ 64 ∨ l = []
 | [], last, _, _ => .inr rfl
 | x :: l, last, h0, h => by
   simp only [epsB, Bool.and_eq_true, decide_eq_true_eq] at h
   obtain ⟨⟨h1, h2, h3⟩, h4⟩ := h
   rcases eps_len (by omega) h4 with h5 | h5
   ·left; simp only [List.length_cons]; omega
   ·subst h5; left; simp only [List.length_cons, List.length_nil]; omega
theorem eps_len64 {l : List Ep} (h : epsB 0 l = true) : l.length ≤ 64 := by
 rcases eps_len (Int.le_refl 0) h with h | h
 ·omega
 ·subst h; simp
theorem eps_mem : ∀ {l : List Ep} {last : Int}, 0 ≤ last → epsB last l = true → ∀ x ∈ l, 1 ≤ x.o ∧ x.o ≤ 64 ∧ 1 ≤ x.n ∧ x.n ≤ 1073741824
 | [], _, _, _, x, hx => by simp at hx
 | y :: l, last, h0, h, x, hx => by
   simp only [epsB, inr, Bool.and_eq_true, decide_eq_true_eq] at h
   obtain ⟨⟨h1, h2, h3, h4⟩, h5⟩ := h
   rcases List.mem_cons.1 hx with rfl | hx
   ·omega
   ·exact eps_mem (by omega) h5 x hx
def dbP (s : St) (i : Nat) : BS := be 8 s.upto.toNat ++ (be 4 s.boot.toNat ++ (be 1 s.db.length ++ (s.db.take i).flatMap lsaBs))
def epP (s : St) (i : Nat) : BS := dbP s s.db.length ++ (be 1 s.eps.length ++ (s.eps.take i).flatMap epBs)
theorem dbP_step {s : St} {i : Nat} {x : Lsa} (h : s.db[i]? = some x) : dbP s (i + 1) = dbP s i ++ lsaBs x := by
 unfold dbP
 rw [take_step h, List.flatMap_append]
 simp [List.append_assoc]
theorem epP_step {s : St} {i : Nat} {x : Ep} (h : s.eps[i]? = some x) : epP s (i + 1) = epP s i ++ be 1 x.o.toNat ++ be 4 x.n.toNat := by
 unfold epP
 rw [take_step h, List.flatMap_append]
 simp [List.append_assoc, epBs]
theorem epP_all (s : St) : epP s s.eps.length = stBs s := by
 unfold epP dbP stBs
 rw [List.take_length, List.take_length]
 simp only [List.append_assoc]
theorem dbP_len {s : St} (i : Nat) (h : lsdbB 0 s.db = true) : (dbP s i).length ≤ 7000 := by
 have h0 := lsdb_len64 h
 have h1 : ((s.db.take i).flatMap lsaBs).length ≤ 90 * (s.db.take i).length := flat_le fun x hx => by
   have := lsdb_mem h x (List.mem_of_mem_take hx)
   have := lsa_links this
   rw [lsaBs_len]
   omega
 have h2 : (s.db.take i).length ≤ s.db.length := by rw [List.length_take]; omega
 unfold dbP
 simp only [List.length_append, be_len]
 omega
theorem epP_len {s : St} (i : Nat) (h : lsdbB 0 s.db = true) (he : epsB 0 s.eps = true) : (epP s i).length ≤ 8000 := by
 have h0 := dbP_len s.db.length h
 have h1 := eps_len64 he
 have h2 : ((s.eps.take i).flatMap epBs).length ≤ 5 * (s.eps.take i).length := flat_le fun x hx => by
   unfold epBs
   rw [List.length_append, be_len, be_len]
   omega
 have h3 : (s.eps.take i).length ≤ s.eps.length := by rw [List.length_take]; omega
 unfold epP
 simp only [List.length_append, be_len]
 omega
/- base.Check -/
set_option maxRecDepth 100000 in
set_option maxHeartbeats 4000000 in
theorem base_Check {s : St} (hl : s.db.length ≤ 1000000) (he : s.eps.length ≤ 1000000) : Triple Tryz.prog 170 [.agg (stC s)] [] (Is (.int (if okS s then 0 else 1)) []) := by
 refine triple_of Tryz.func170 rfl (by kernel_rfl) rfl (by simp) ?_
 refine aSeq ?_
 refine aReg ?_
 refine sq ?_
 refine qBox rfl rfl (by decide) rfl rfl (fun b1 => ?_)
 refine sp pMa ?_
 refine oNil ?_
 refine aSeq ?_
 refine aSeq ?_
 refine aReg ?_
 refine sp (pFb fd_35_1) ?_
 refine sr (rB1 ty_3) ?_
 refine sp pB ?_
 refine sp pM ?_
 refine oSplitDec 11 rfl (fun c11 => ?_) (fun c11 => ?_)
 ·skip
  refine gf ?_
  refine gf ?_
  refine gf ?_
  refine sp pK ?_
  refine sp pM ?_
  refine gf ?_
  refine gf ?_
  refine gf ?_
  refine sp pK ?_
  refine sp pM ?_
  refine gf ?_
  refine gf ?_
  refine gf ?_
  refine sp pK ?_
  refine oNil ?_
  refine aCondT rfl ?_
  refine aSeq ?_
  refine aReg ?_
  refine sp pMa ?_
  refine oNil ?_
  refine aRet ?_
  refine finIs rfl ?_
  have hB : okS s = false := by
    cases hB : okS s with
    | false => rfl
    | true => have hB' := okS_iff.1 hB; first | omega | (simp_all; done) | (simp_all; omega) | (simp_all [inr]; done) | (simp_all [inr]; omega)
  rw [hB]
  rfl
 ·skip
  refine gp (pFb fd_35_1) ?_
  refine gr (rB1 ty_3) ?_
  refine gp pB ?_
  refine sp pK ?_
  refine sp pM ?_
  refine oSplitDec 16 rfl (fun c16 => ?_) (fun c16 => ?_)
  ·skip
   refine gf ?_
   refine gf ?_
   refine gf ?_
   refine sp pK ?_
   refine sp pM ?_
   refine gf ?_
   refine gf ?_
   refine gf ?_
   refine sp pK ?_
   refine oNil ?_
   refine aCondT rfl ?_
   refine aSeq ?_
   refine aReg ?_
   refine sp pMa ?_
   refine oNil ?_
   refine aRet ?_
   refine finIs rfl ?_
   have hB : okS s = false := by
     cases hB : okS s with
     | false => rfl
     | true => have hB' := okS_iff.1 hB; first | omega | (simp_all; done) | (simp_all; omega) | (simp_all [inr]; done) | (simp_all [inr]; omega)
   rw [hB]
   rfl
  ·skip
   refine gp (pFb fd_35_2) ?_
   refine gr (rB1 ty_3) ?_
   refine gp pB ?_
   refine sp pK ?_
   refine sp pM ?_
   refine oSplitDec 21 rfl (fun c21 => ?_) (fun c21 => ?_)
   ·skip
    refine gf ?_
    refine gf ?_
    refine gf ?_
    refine sp pK ?_
    refine oNil ?_
    refine aCondT rfl ?_
    refine aSeq ?_
    refine aReg ?_
    refine sp pMa ?_
    refine oNil ?_
    refine aRet ?_
    refine finIs rfl ?_
    have hB : okS s = false := by
      cases hB : okS s with
      | false => rfl
      | true => have hB' := okS_iff.1 hB; first | omega | (simp_all; done) | (simp_all; omega) | (simp_all [inr]; done) | (simp_all [inr]; omega)
    rw [hB]
    rfl
   ·skip
    refine gp (pFb fd_35_2) ?_
    refine gr (rB1 ty_3) ?_
    refine gp pB ?_
    refine sp pK ?_
    refine oNil ?_
    refine aCondDec rfl (fun c25 => ?_) (fun c25 => ?_)
    ·skip
     refine aSeq ?_
     refine aReg ?_
     refine sp pMa ?_
     refine oNil ?_
     refine aRet ?_
     refine finIs rfl ?_
     have hB : okS s = false := by
       cases hB : okS s with
       | false => rfl
       | true => have hB' := okS_iff.1 hB; first | omega | (simp_all; done) | (simp_all; omega) | (simp_all [inr]; done) | (simp_all [inr]; omega)
     rw [hB]
     rfl
    ·skip
     refine aSkip ?_
     refine aSeq ?_
     refine aReg ?_
     refine sp pMa ?_
     refine oNil ?_
     refine aSeq ?_
     refine aSeq ?_
     have hr : (0 ≤ s.upto ∧ s.upto ≤ 4611686018427387904) ∧ (0 ≤ s.boot ∧ s.boot ≤ 1073741824) := by simp_all; try omega
     refine aReg ?_
     refine sp (pFb fd_35_0) ?_
     refine sr (rB1 ty_32) ?_
     refine sp (by first | exact pLm sl_32 | exact pLs sl_32 | exact pLv sl_32) ?_
     refine sp pM ?_
     refine oNil ?_
     refine aBlock ?_
     refine loopF (α := Nat × Int) (kept := [(1, _), (27, _), (28, _)]) (fun (i, last) => i ≤ s.db.length ∧ lsdbB 0 s.db = lsdbB last (s.db.drop i)) (fun (i, last) => [(29, .int i), (3, .int last)]) (fun (i, last) => []) (fun (i, last) => s.db.length - i) (0, 0) ?_ ⟨gInt rfl (by first | rfl | omega | simp), gInt rfl (by first | rfl | omega | simp), rfl, rfl, rfl, trivial⟩ (by repeat constructor) ?_
     ·skip
      exact ⟨by omega, rfl⟩
     ·rintro ⟨i, last⟩ ⟨hi, hv⟩
      refine aSeq ?_
      refine aReg ?_
      refine sp pB ?_
      refine oNil ?_
      refine aSeq ?_
      refine aCondDec rfl (fun c30 => ?_) (fun c30 => ?_)
      ·skip
       refine aSkip ?_
       refine aSeq ?_
       refine aBlock ?_
       refine aSeq ?_
       obtain ⟨x, hx⟩ : ∃ z, s.db[i]? = some z := ⟨_, List.getElem?_eq_getElem (by omega)⟩
       have hs := lsdb_step (last := last) hx
       refine aReg ?_
       first | refine sp (pIx es_32) ?_ | (refine obtSN 27 29 rfl rfl (by omega) (fun x31 hx31 => ?_); refine sp (pIs es_32 hx31) ?_) | (refine obtS 27 29 rfl rfl (by omega) (by omega) (fun x31 hx31 => ?_); refine sp (pIs es_32 hx31) ?_) | refine sp (pIo es_32) ?_
       refine sr (by first | exact rSW ty_55 rfl | exact rSA ty_55 | exact rBWa ty_55 | exact rBW ty_55 | exact rBA ty_55 | exact rArA ty_55 (fun _ => rfl)) ?_
       refine sq ?_
       refine qAlloc rfl rfl (by decide) ze_55 rfl (fun b5 => ?_)
       refine sa ?_
       refine oStW rfl rfl rfl rfl (by repeat constructor) ty_55 ?_
       refine oNil ?_
       refine aSeq ?_
       refine aSeq ?_
       refine aReg ?_
       refine sr (by first | exact rBWa ty_55 | exact rBW ty_55 | exact rBA ty_55) ?_
       refine sq ?_
       refine ci rfl rfl rfl (lsa_Check (l := x)) ?_
       refine sp pB ?_
       refine sp pM ?_
       refine oSplitNe 36 rfl (fun c36 => ?_) (fun c36 => ?_)
       ·skip
        refine gf ?_
        refine gf ?_
        refine gf ?_
        refine gf ?_
        refine sp pK ?_
        refine oNil ?_
        refine aCondT rfl ?_
        refine aSeq ?_
        refine aReg ?_
        refine sp pMa ?_
        refine oNil ?_
        refine aRet ?_
        refine finIs rfl ?_
        have hB : okS s = false := by
          cases hB : okS s with
          | false => rfl
          | true => have hB' := okS_iff.1 hB; rw [hv, hs] at hB'; first | omega | (simp_all; done) | (simp_all; omega) | (simp_all [inr]; done) | (simp_all [inr]; omega)
        rw [hB]
        rfl
       ·skip
        refine gp (pFb fd_55_0) ?_
        refine gr (rB1 ty_3) ?_
        refine gp pM ?_
        refine gp pB ?_
        refine sp pK ?_
        refine oNil ?_
        refine aCondDec rfl (fun c41 => ?_) (fun c41 => ?_)
        ·skip
         refine aSeq ?_
         refine aReg ?_
         refine sp pMa ?_
         refine oNil ?_
         refine aRet ?_
         refine finIs rfl ?_
         have hB : okS s = false := by
           cases hB : okS s with
           | false => rfl
           | true => have hB' := okS_iff.1 hB; rw [hv, hs] at hB'; first | omega | (simp_all; done) | (simp_all; omega) | (simp_all [inr]; done) | (simp_all [inr]; omega)
         rw [hB]
         rfl
        ·skip
         refine aSkip ?_
         refine aReg ?_
         refine sp (pFb fd_55_0) ?_
         refine sr (rB1 ty_3) ?_
         refine sp pMa ?_
         refine oNil ?_
         refine aReg ?_
         refine sp pAd ?_
         refine sp pM ?_
         refine oNil ?_
         refine ⟨(i + 1, x.o), ?_, by (try dsimp only); omega, ⟨gInt rfl (by first | rfl | omega | simp), gInt rfl (by first | rfl | omega | simp), rfl, rfl, rfl, trivial⟩, _, (by repeat constructor)⟩
         refine ⟨by omega, ?_⟩
         rw [hv, hs]
         simp_all
         all_goals (intros; omega)
      ·skip
       refine aExit rfl ?_
       refine aSeq ?_
       refine aReg ?_
       refine sp pMa ?_
       refine oNil ?_
       refine aSeq ?_
       refine aSeq ?_
       obtain rfl : i = s.db.length := by omega
       rw [List.drop_length] at hv
       have hdb : lsdbB 0 s.db = true := by rw [hv]; rfl
       refine aReg ?_
       refine sp (pFb fd_35_3) ?_
       refine sr (rB1 ty_33) ?_
       refine sp (by first | exact pLm sl_33 | exact pLs sl_33 | exact pLv sl_33) ?_
       refine sp pM ?_
       refine oNil ?_
       refine aBlock ?_
       refine loopF (α := Nat × Int) (kept := [(46, _), (47, _)]) (fun (i, last) => i ≤ s.eps.length ∧ epsB 0 s.eps = epsB last (s.eps.drop i)) (fun (i, last) => [(48, .int i), (3, .int last)]) (fun (i, last) => []) (fun (i, last) => s.eps.length - i) (0, 0) ?_ ⟨gInt rfl (by first | rfl | omega | simp), gInt rfl (by first | rfl | omega | simp), rfl, rfl, trivial⟩ (by repeat constructor) ?_
       ·skip
        exact ⟨by omega, rfl⟩
       ·rintro ⟨i, last⟩ ⟨hi, hve⟩
        refine aSeq ?_
        refine aReg ?_
        refine sp pB ?_
        refine oNil ?_
        refine aSeq ?_
        refine aCondDec rfl (fun c49 => ?_) (fun c49 => ?_)
        ·skip
         refine aSkip ?_
         refine aSeq ?_
         refine aBlock ?_
         refine aSeq ?_
         obtain ⟨x, hx⟩ : ∃ z, s.eps[i]? = some z := ⟨_, List.getElem?_eq_getElem (by omega)⟩
         have hs := eps_step (last := last) hx
         refine aReg ?_
         first | refine sp (pIx es_33) ?_ | (refine obtSN 46 48 rfl rfl (by omega) (fun x50 hx50 => ?_); refine sp (pIs es_33 hx50) ?_) | (refine obtS 46 48 rfl rfl (by omega) (by omega) (fun x50 hx50 => ?_); refine sp (pIs es_33 hx50) ?_) | refine sp (pIo es_33) ?_
         refine sr (by first | exact rSW ty_132 rfl | exact rSA ty_132 | exact rBWa ty_132 | exact rBW ty_132 | exact rBA ty_132 | exact rArA ty_132 (fun _ => rfl)) ?_
         refine sq ?_
         refine qAlloc rfl rfl (by decide) ze_132 rfl (fun b7 => ?_)
         refine sa ?_
         refine oStW rfl rfl rfl rfl (by repeat constructor) ty_132 ?_
         refine oNil ?_
         refine aSeq ?_
         refine aSeq ?_
         refine aReg ?_
         refine sp (pFb fd_132_0) ?_
         refine sr (rB1 ty_3) ?_
         refine sp pM ?_
         refine sp pB ?_
         refine sp pM ?_
         refine oSplitDec 56 rfl (fun c56 => ?_) (fun c56 => ?_)
         ·skip
          refine gf ?_
          refine gf ?_
          refine gf ?_
          refine sp pK ?_
          refine sp pM ?_
          refine gf ?_
          refine gf ?_
          refine gf ?_
          refine sp pK ?_
          refine sp pM ?_
          refine gf ?_
          refine gf ?_
          refine gf ?_
          refine sp pK ?_
          refine oNil ?_
          refine aCondT rfl ?_
          refine aSeq ?_
          refine aReg ?_
          refine sp pMa ?_
          refine oNil ?_
          refine aRet ?_
          refine finIs rfl ?_
          have hB : okS s = false := by
            cases hB : okS s with
            | false => rfl
            | true => have hB' := okS_iff.1 hB; rw [hve, hs] at hB'; first | omega | (simp_all; done) | (simp_all; omega) | (simp_all [inr]; done) | (simp_all [inr]; omega)
          rw [hB]
          rfl
         ·skip
          refine gp (pFb fd_132_0) ?_
          refine gr (rB1 ty_3) ?_
          refine gp pB ?_
          refine sp pK ?_
          refine sp pM ?_
          refine oSplitDec 61 rfl (fun c61 => ?_) (fun c61 => ?_)
          ·skip
           refine gf ?_
           refine gf ?_
           refine gf ?_
           refine sp pK ?_
           refine sp pM ?_
           refine gf ?_
           refine gf ?_
           refine gf ?_
           refine sp pK ?_
           refine oNil ?_
           refine aCondT rfl ?_
           refine aSeq ?_
           refine aReg ?_
           refine sp pMa ?_
           refine oNil ?_
           refine aRet ?_
           refine finIs rfl ?_
           have hB : okS s = false := by
             cases hB : okS s with
             | false => rfl
             | true => have hB' := okS_iff.1 hB; rw [hve, hs] at hB'; first | omega | (simp_all; done) | (simp_all; omega) | (simp_all [inr]; done) | (simp_all [inr]; omega)
           rw [hB]
           rfl
          ·skip
           refine gp (pFb fd_132_1) ?_
           refine gr (rB1 ty_3) ?_
           refine gp pB ?_
           refine sp pK ?_
           refine sp pM ?_
           refine oSplitDec 66 rfl (fun c66 => ?_) (fun c66 => ?_)
           ·skip
            refine gf ?_
            refine gf ?_
            refine gf ?_
            refine sp pK ?_
            refine oNil ?_
            refine aCondT rfl ?_
            refine aSeq ?_
            refine aReg ?_
            refine sp pMa ?_
            refine oNil ?_
            refine aRet ?_
            refine finIs rfl ?_
            have hB : okS s = false := by
              cases hB : okS s with
              | false => rfl
              | true => have hB' := okS_iff.1 hB; rw [hve, hs] at hB'; first | omega | (simp_all; done) | (simp_all; omega) | (simp_all [inr]; done) | (simp_all [inr]; omega)
            rw [hB]
            rfl
           ·skip
            refine gp (pFb fd_132_1) ?_
            refine gr (rB1 ty_3) ?_
            refine gp pB ?_
            refine sp pK ?_
            refine oNil ?_
            refine aCondDec rfl (fun c70 => ?_) (fun c70 => ?_)
            ·skip
             refine aSeq ?_
             refine aReg ?_
             refine sp pMa ?_
             refine oNil ?_
             refine aRet ?_
             refine finIs rfl ?_
             have hB : okS s = false := by
               cases hB : okS s with
               | false => rfl
               | true => have hB' := okS_iff.1 hB; rw [hve, hs] at hB'; first | omega | (simp_all; done) | (simp_all; omega) | (simp_all [inr]; done) | (simp_all [inr]; omega)
             rw [hB]
             rfl
            ·skip
             refine aSkip ?_
             refine aReg ?_
             refine sp (pFb fd_132_0) ?_
             refine sr (rB1 ty_3) ?_
             refine sp pMa ?_
             refine oNil ?_
             refine aReg ?_
             refine sp pAd ?_
             refine sp pM ?_
             refine oNil ?_
             refine ⟨(i + 1, x.o), ?_, by (try dsimp only); omega, ⟨gInt rfl (by first | rfl | omega | simp), gInt rfl (by first | rfl | omega | simp), rfl, rfl, trivial⟩, _, (by repeat constructor)⟩
             refine ⟨by omega, ?_⟩
             rw [hve, hs]
             simp_all [inr]
             all_goals (intros; omega)
        ·skip
         refine aExit rfl ?_
         refine aSeq ?_
         refine aReg ?_
         refine sp pMa ?_
         refine oNil ?_
         refine aRet ?_
         refine finIs rfl ?_
         obtain rfl : i = s.eps.length := by omega
         rw [List.drop_length] at hve
         have hB : okS s = true := okS_iff.2 ⟨hr.1, hr.2, hdb, by rw [hve]; rfl⟩
         rw [hB]
         rfl
/- base.Put -/
def base_Put_r4_T : Bool × List (List Nat × List Nat) := (true, [([], []), ([0], [0]), ([1], [1]), ([2], [2]), ([], []), ([4], [4]), ([5], [5]), ([3, 6, 3], [3, 6]), ([7, 7, 0, 1, 2, 3, 4, 5, 6, 7], [7])])
def base_Put_r4_B : List Nat := [0, 1, 3, 7, 0, 16, 48, 127, 255]
theorem base_Put_r4_t : Go.Proofs.YthkgdhamnpiagaaGreatW.PrintLast.rtab .any (Go.Proofs.YthkgdhamnpiagaaGreatW.PrintLast.opsOf Tryz.f180 4) = base_Put_r4_T := by kernel_rfl
theorem base_Put_r4_b : Go.Proofs.YthkgdhamnpiagaaGreatW.PrintLast.waitsOk base_Put_r4_T.2 base_Put_r4_B = true := by kernel_rfl
def base_Put_r15_T : Bool × List (List Nat × List Nat) := (true, [([], []), ([], []), ([1], [1]), ([2], [2]), ([0, 3], [0, 3]), ([], []), ([5], [5]), ([6], [6]), ([4, 7, 4], [4, 7]), ([8, 8, 0, 1, 2, 3, 4, 5, 6, 7, 8], [0, 8])])
def base_Put_r15_B : List Nat := [0, 0, 2, 6, 15, 0, 32, 96, 255, 511]
theorem base_Put_r15_t : Go.Proofs.YthkgdhamnpiagaaGreatW.PrintLast.rtab .any (Go.Proofs.YthkgdhamnpiagaaGreatW.PrintLast.opsOf Tryz.f180 15) = base_Put_r15_T := by kernel_rfl
theorem base_Put_r15_b : Go.Proofs.YthkgdhamnpiagaaGreatW.PrintLast.waitsOk base_Put_r15_T.2 base_Put_r15_B = true := by kernel_rfl
set_option maxRecDepth 100000 in
set_option maxHeartbeats 4000000 in
theorem base_Put {s : St} (hl : s.db.length ≤ 1000000) (he : s.eps.length ≤ 1000000) : Triple Tryz.prog 180 [.agg (stC s)] [] (Is (.tup [bsA (if okS s then stBs s else []), .int (if okS s then 0 else 1)]) []) := by
 refine triple_of Tryz.func180 rfl (by kernel_rfl) rfl (by simp) ?_
 refine aSeq ?_
 refine aReg ?_
 refine sq ?_
 refine qBox rfl rfl (by decide) rfl rfl (fun b1 => ?_)
 refine sp pMa ?_
 refine sp pMa ?_
 refine oNil ?_
 refine aSeq ?_
 refine aSeq ?_
 refine aReg ?_
 refine sr (by first | exact rBWa ty_35 | exact rBW ty_35 | exact rBA ty_35) ?_
 refine sq ?_
 refine ci rfl rfl rfl (base_Check (s := s) hl he) ?_
 refine sp pMa ?_
 refine oNil ?_
 refine aSeq ?_
 refine aReg ?_
 refine sp pM ?_
 refine sp pB ?_
 refine oNil ?_
 refine aCondNe rfl (fun c13 => ?_) (fun c13 => ?_)
 ·skip
  refine aSeq ?_
  refine aReg ?_
  refine sp pM ?_
  refine sp pMa ?_
  refine sp pMa ?_
  refine oNil ?_
  have hB : okS s = false := by simp_all
  rw [hB]
  refine aWeak (weak_cast (k := 2) (b := .sl 1 []) rfl cast_nil) ?_
  refine aRet ?_
  exact finIs rfl rfl
 ·skip
  refine aSkip ?_
  refine aSeq ?_
  have hB : okS s = true := by simp_all
  obtain ⟨hu, hbt, hdb, hep⟩ := okS_iff.1 hB
  have hdl := lsdb_len64 hdb
  have hel := eps_len64 hep
  refine aDrawT base_Put_r4_t base_Put_r4_b [] 9 #[false, false, false, false, false, false, false, false, false] (by kernel_rfl) rfl rfl (fun HT => ?_)
  refine dp HT 0 rfl (pFb fd_35_1) ?_
  refine dr HT 1 rfl (rB1 ty_3) ?_
  refine dp HT 2 rfl (pConv (n' := ((s.upto.toNat : Nat) : Int)) rfl rfl ik_3 ik_172 (by rw [Int.toNat_of_nonneg (by omega)]; exact wrap_u64 (by omega) (by omega))) ?_
  refine dp HT 4 rfl (pFb fd_35_2) ?_
  refine dr HT 5 rfl (rB1 ty_3) ?_
  refine dp HT 6 rfl (pConv (n' := ((s.boot.toNat : Nat) : Int)) rfl rfl ik_3 ik_172 (by rw [Int.toNat_of_nonneg (by omega)]; exact wrap_u64 (by omega) (by omega))) ?_
  refine dGo ?_
  refine e1 HT 3 rfl ?_
  refine ci rfl rfl rfl (Triple_nilNum (w := 8) (n := s.upto.toNat) (by decide) (by decide)) ?_
  refine e1 HT 7 rfl ?_
  refine ci rfl rfl rfl (oct_Num_s (b := be 8 s.upto.toNat) (w := 4) (n := s.boot.toNat) (by simp only [List.length_append, be_len]; omega) (by decide) (by decide)) ?_
  refine ePure (i := 8) #[true, true, true, true, true, true, true, true, true] rfl rfl rfl (HT.any (by kernel_rfl)) (by exact pMa) (by decide) ?_
  refine eE HT ?_
  clear HT
  refine aSeq ?_
  refine aReg ?_
  refine sp pM ?_
  refine sp (pFb fd_35_0) ?_
  refine sr (rB1 ty_32) ?_
  refine sp (by first | exact pLm sl_32 | exact pLs sl_32 | exact pLv sl_32) ?_
  refine sp (by first | exact pCvK ik_3 ik_172 | exact pConv rfl rfl ik_3 ik_172 rfl) ?_
  refine sq ?_
  refine ci rfl rfl rfl (oct_Num_s (b := be 8 s.upto.toNat ++ be 4 s.boot.toNat) (w := 1) (n := s.db.length) (by simp only [List.length_append, be_len]; omega) (by decide) (by decide)) ?_
  refine sp pMa ?_
  refine oNil ?_
  refine aSeq ?_
  refine aSeq ?_
  refine aReg ?_
  refine sp (pFb fd_35_0) ?_
  refine sr (rB1 ty_32) ?_
  refine sp (by first | exact pLm sl_32 | exact pLs sl_32 | exact pLv sl_32) ?_
  refine sp pM ?_
  refine oNil ?_
  refine aBlock ?_
  refine loopF (α := Nat) (kept := [(1, _), (30, _), (31, _)]) (fun i => i ≤ s.db.length) (fun i => [(32, .int i), (5, .sl 1 ((dbP s i).map by1))]) (fun i => []) (fun i => s.db.length - i) 0 ?_ ⟨gInt rfl (by first | rfl | omega | simp), (by first | (rw [dbP_step hx]; rfl) | (unfold dbP; simp only [List.take_zero, List.flatMap_nil, List.append_nil, ← List.append_assoc]; rfl)), rfl, rfl, rfl, trivial⟩ (by repeat constructor) ?_
  ·skip
   omega
  ·rintro i hi
   refine aSeq ?_
   refine aReg ?_
   refine sp pB ?_
   refine oNil ?_
   refine aSeq ?_
   refine aCondDec rfl (fun c33 => ?_) (fun c33 => ?_)
   ·skip
    refine aSkip ?_
    refine aSeq ?_
    refine aBlock ?_
    refine aSeq ?_
    obtain ⟨x, hx⟩ : ∃ z, s.db[i]? = some z := ⟨_, List.getElem?_eq_getElem (by omega)⟩
    have hpl := dbP_len i hdb
    refine aReg ?_
    first | refine sp (pIx es_32) ?_ | (refine obtSN 30 32 rfl rfl (by omega) (fun x34 hx34 => ?_); refine sp (pIs es_32 hx34) ?_) | (refine obtS 30 32 rfl rfl (by omega) (by omega) (fun x34 hx34 => ?_); refine sp (pIs es_32 hx34) ?_) | refine sp (pIo es_32) ?_
    refine sr (by first | exact rSW ty_55 rfl | exact rSA ty_55 | exact rBWa ty_55 | exact rBW ty_55 | exact rBA ty_55 | exact rArA ty_55 (fun _ => rfl)) ?_
    refine sq ?_
    refine qAlloc rfl rfl (by decide) ze_55 rfl (fun b7 => ?_)
    refine sa ?_
    refine oStW rfl rfl rfl rfl (by repeat constructor) ty_55 ?_
    refine oNil ?_
    refine aReg ?_
    refine sp pM ?_
    refine sr (by first | exact rBWa ty_55 | exact rBW ty_55 | exact rBA ty_55) ?_
    refine sq ?_
    refine ci rfl rfl rfl (lsa_Put (b := dbP s i) (l := x) (lsdb_mem hdb x (List.mem_of_getElem? hx)) (by omega)) ?_
    refine sp pMa ?_
    refine oNil ?_
    refine aReg ?_
    refine sp pAd ?_
    refine sp pM ?_
    refine oNil ?_
    refine ⟨i + 1, ?_, by (try dsimp only); omega, ⟨gInt rfl (by first | rfl | omega | simp), (by first | (rw [dbP_step hx]; rfl) | (unfold dbP; simp only [List.take_zero, List.flatMap_nil, List.append_nil, ← List.append_assoc]; rfl)), rfl, rfl, rfl, trivial⟩, _, (by repeat constructor)⟩
    omega
   ·skip
    refine aExit rfl ?_
    refine aSeq ?_
    obtain rfl : i = s.db.length := by omega
    have hpl := dbP_len s.db.length hdb
    refine aReg ?_
    refine sp pM ?_
    refine sp (pFb fd_35_3) ?_
    refine sr (rB1 ty_33) ?_
    refine sp (by first | exact pLm sl_33 | exact pLs sl_33 | exact pLv sl_33) ?_
    refine sp (by first | exact pCvK ik_3 ik_172 | exact pConv rfl rfl ik_3 ik_172 rfl) ?_
    refine sq ?_
    refine ci rfl rfl rfl (oct_Num_s (b := dbP s s.db.length) (w := 1) (n := s.eps.length) (by omega) (by decide) (by decide)) ?_
    refine sp pMa ?_
    refine oNil ?_
    refine aSeq ?_
    refine aSeq ?_
    refine aReg ?_
    refine sp (pFb fd_35_3) ?_
    refine sr (rB1 ty_33) ?_
    refine sp (by first | exact pLm sl_33 | exact pLs sl_33 | exact pLv sl_33) ?_
    refine sp pM ?_
    refine oNil ?_
    refine aBlock ?_
    refine loopF (α := Nat) (kept := [(47, _), (48, _)]) (fun i => i ≤ s.eps.length) (fun i => [(49, .int i), (5, .sl 1 ((epP s i).map by1))]) (fun i => []) (fun i => s.eps.length - i) 0 ?_ ⟨gInt rfl (by first | rfl | omega | simp), (by first | (rw [epP_step hx]; rfl) | (unfold epP; simp only [List.take_zero, List.flatMap_nil, List.append_nil]; rfl)), rfl, rfl, trivial⟩ (by repeat constructor) ?_
    ·skip
     omega
    ·rintro i hi
     refine aSeq ?_
     refine aReg ?_
     refine sp pB ?_
     refine oNil ?_
     refine aSeq ?_
     refine aCondDec rfl (fun c50 => ?_) (fun c50 => ?_)
     ·skip
      refine aSkip ?_
      refine aSeq ?_
      refine aBlock ?_
      refine aSeq ?_
      obtain ⟨x, hx⟩ : ∃ z, s.eps[i]? = some z := ⟨_, List.getElem?_eq_getElem (by omega)⟩
      have hql := epP_len i hdb hep
      have hxr := eps_mem (Int.le_refl 0) hep x (List.mem_of_getElem? hx)
      refine aReg ?_
      first | refine sp (pIx es_33) ?_ | (refine obtSN 47 49 rfl rfl (by omega) (fun x51 hx51 => ?_); refine sp (pIs es_33 hx51) ?_) | (refine obtS 47 49 rfl rfl (by omega) (by omega) (fun x51 hx51 => ?_); refine sp (pIs es_33 hx51) ?_) | refine sp (pIo es_33) ?_
      refine sr (by first | exact rSW ty_132 rfl | exact rSA ty_132 | exact rBWa ty_132 | exact rBW ty_132 | exact rBA ty_132 | exact rArA ty_132 (fun _ => rfl)) ?_
      refine sq ?_
      refine qAlloc rfl rfl (by decide) ze_132 rfl (fun b9 => ?_)
      refine sa ?_
      refine oStW rfl rfl rfl rfl (by repeat constructor) ty_132 ?_
      refine oNil ?_
      refine aDrawT base_Put_r15_t base_Put_r15_b [] 10 #[false, false, false, false, false, false, false, false, false, false] (by kernel_rfl) rfl rfl (fun HT => ?_)
      refine dp HT 0 rfl pM ?_
      refine dp HT 1 rfl (pFb fd_132_0) ?_
      refine dr HT 2 rfl (rB1 ty_3) ?_
      refine dp HT 3 rfl (pConv (n' := ((x.o.toNat : Nat) : Int)) rfl rfl ik_3 ik_172 (by rw [Int.toNat_of_nonneg (by omega)]; exact wrap_u64 (by omega) (by omega))) ?_
      refine dp HT 5 rfl (pFb fd_132_1) ?_
      refine dr HT 6 rfl (rB1 ty_3) ?_
      refine dp HT 7 rfl (pConv (n' := ((x.n.toNat : Nat) : Int)) rfl rfl ik_3 ik_172 (by rw [Int.toNat_of_nonneg (by omega)]; exact wrap_u64 (by omega) (by omega))) ?_
      refine dGo ?_
      refine e1 HT 4 rfl ?_
      refine ci rfl rfl rfl (oct_Num_s (b := epP s i) (w := 1) (n := x.o.toNat) (by omega) (by decide) (by decide)) ?_
      refine e1 HT 8 rfl ?_
      refine ci rfl rfl rfl (oct_Num_s (b := epP s i ++ be 1 x.o.toNat) (w := 4) (n := x.n.toNat) (by simp only [List.length_append, be_len]; omega) (by decide) (by decide)) ?_
      refine ePure (i := 9) #[true, true, true, true, true, true, true, true, true, true] rfl rfl rfl (HT.any (by kernel_rfl)) (by exact pMa) (by decide) ?_
      refine eE HT ?_
      clear HT
      refine aReg ?_
      refine sp pAd ?_
      refine sp pM ?_
      refine oNil ?_
      refine ⟨i + 1, ?_, by (try dsimp only); omega, ⟨gInt rfl (by first | rfl | omega | simp), (by first | (rw [epP_step hx]; rfl) | (unfold epP; simp only [List.take_zero, List.flatMap_nil, List.append_nil]; rfl)), rfl, rfl, trivial⟩, _, (by repeat constructor)⟩
      omega
     ·skip
      refine aExit rfl ?_
      refine aSeq ?_
      refine aReg ?_
      refine sp pM ?_
      refine sp pMa ?_
      refine sp pMa ?_
      refine oNil ?_
      refine aRet ?_
      refine finIs rfl ?_
      obtain rfl : i = s.eps.length := by omega
      rw [hB, epP_all]
      rfl
end A
end Go.Proofs.YthkgdhamnpiagaaGreat
namespace Go.Proofs.YthkgdhamnpiagaaGreat
namespace A
theorem el_32 : elemOf Tryz.prog 32 = some (55, 3, 40) := by kernel_rfl
theorem el_33 : elemOf Tryz.prog 33 = some (132, 2, 16) := by kernel_rfl
theorem st_132 : structPlaces Tryz.prog 132 = some [(0, 1), (1, 1)] := by kernel_rfl
theorem st_35 : structPlaces Tryz.prog 35 = some [(0, 1), (1, 1), (2, 1), (3, 1)] := by kernel_rfl
theorem us_32 : Tryz.prog.underlying 32 = some (.slice 55) := by kernel_rfl
theorem us_33 : Tryz.prog.underlying 33 = some (.slice 132) := by kernel_rfl
theorem ze_35 : zeroOf Tryz.prog 35 = some (.agg #[.slice none 0 0, .int .i64 0, .int .i64 0, .slice none 0 0]) := by kernel_rfl
theorem rdDb_yes {k : Nat} {s : RS} (h : rdLsaOk s = true) : rdDb (k + 1) s = ((rdLsaX s).1 :: (rdDb k (rdLsaX s).2).1, (rdDb k (rdLsaX s).2).2) := by
 rw [rdDb, if_pos h]
theorem rdDb_no {k : Nat} {s : RS} (h : rdLsaOk s = false) : rdDb (k + 1) s = ([], (rdLsaX s).2, false) := by
 rw [rdDb, if_neg (by rw [h]; decide)]
theorem rdEps_step {k : Nat} {s : RS} : rdEps (k + 1) s = (⟨(s.num 1).1, ((s.num 1).2.num 4).1⟩ :: (rdEps k ((s.num 1).2.num 4).2).1, (rdEps k ((s.num 1).2.num 4).2).2) := rfl
theorem cast_st0 : Cast (.agg [.v (.slice none 0 0), .int 0, .int 0, .v (.slice none 0 0)]) (.agg (stC st0)) := cast_ag (.cons cast_nil (.cons .refl (.cons .refl (.cons cast_nil .nil))))
theorem getS_eq (b : BS) : getS b = (if (rdDb (RS.num 1 (RS.num 4 (RS.num 8 ⟨b, false⟩).2).2).1 (RS.num 1 (RS.num 4 (RS.num 8 ⟨b, false⟩).2).2).2).2.2 then
   let d := rdDb (RS.num 1 (RS.num 4 (RS.num 8 ⟨b, false⟩).2).2).1 (RS.num 1 (RS.num 4 (RS.num 8 ⟨b, false⟩).2).2).2
   let e := rdEps (d.2.1.num 1).1 (d.2.1.num 1).2
   let s : St := ⟨d.1, toI (RS.num 8 ⟨b, false⟩).1, (RS.num 4 (RS.num 8 ⟨b, false⟩).2).1, e.1⟩
   if (!e.2.w && decide (e.2.b.length = 0)) && okS s then some s else none
 else none) := rfl
/- base.Get -/
def base_Get_r12_T : Bool × List (List Nat × List Nat) := (true, [([], []), ([0], [0]), ([], []), ([2], [2]), ([3], [3]), ([], []), ([5, 3], [5]), ([6], [6]), ([4, 7], [4, 7]), ([8], [8]), ([1, 9, 6], [1, 9]), ([0, 1, 2, 3, 4, 5, 6, 7, 8, 9, 10], []), ([11, 10, 10, 0, 1, 2, 3, 4, 5, 6, 7, 8, 9, 10], [10, 11])])
def base_Get_r12_B : List Nat := [0, 1, 0, 4, 12, 0, 44, 108, 252, 508, 1023, 2047, 4095]
theorem base_Get_r12_t : Go.Proofs.YthkgdhamnpiagaaGreatW.PrintLast.rtab .any (Go.Proofs.YthkgdhamnpiagaaGreatW.PrintLast.opsOf Tryz.f162 12) = base_Get_r12_T := by kernel_rfl
theorem base_Get_r12_b : Go.Proofs.YthkgdhamnpiagaaGreatW.PrintLast.waitsOk base_Get_r12_T.2 base_Get_r12_B = true := by kernel_rfl
set_option maxRecDepth 100000 in
set_option maxHeartbeats 4000000 in
theorem base_Get {b : BS} (hb : b.length ≤ 900000) (hk : BOk b) : Triple Tryz.prog 162 [.sl 1 (b.map by1)] [] (Is (.tup [.agg (stC ((getS b).getD st0)), .int (if (getS b).isSome then 0 else 2)]) []) := by
 have k1 : BOk (RS.num 8 (⟨b, false⟩ : RS)).2.b := RS.num_ok 8 (s := (⟨b, false⟩ : RS)) hk
 have k2 := RS.num_ok 4 k1
 have k3 := RS.num_ok 1 k2
 have l1 : (RS.num 8 (⟨b, false⟩ : RS)).2.b.length ≤ b.length := RS.num_len 8 (⟨b, false⟩ : RS)
 have l2 := RS.num_len 4 (RS.num 8 (⟨b, false⟩ : RS)).2
 have l3 := RS.num_len 1 (RS.num 4 (RS.num 8 (⟨b, false⟩ : RS)).2).2
 have m0 : (RS.num 8 (⟨b, false⟩ : RS)).1 < 18446744073709551616 := num_lt8 (s := (⟨b, false⟩ : RS)) hk
 have m1 := num_lt4 k1
 have m2 := num_lt1 k2
 refine triple_ofR Tryz.func162 rfl (by kernel_rfl) rfl (by simp) ?_
 refine aSeq ?_
 refine aReg ?_
 refine sq ?_
 refine qAlloc rfl rfl (by decide) ze_35 rfl (fun b2 => ?_)
 refine sp pMa ?_
 refine oNil ?_
 refine aSeq ?_
 refine aReg ?_
 refine sp pM ?_
 refine sa ?_
 refine ca rfl rfl rfl (rd_Read (b := b) (by omega)) ?_
 rintro _ _ ⟨rb, rfl, rfl⟩
 refine sp pMa ?_
 refine oNil ?_
 refine aSeq ?_
 refine aReg ?_
 refine sp pM ?_
 refine sa ?_
 refine cai rfl rfl rfl (rd_Num (rb := rb) (s := (⟨b, false⟩ : RS)) (k := 8) hk (by first | omega | (show b.length ≤ 1000000; omega)) (by decide) (by decide)) ?_
 refine sp (pConv (n' := toI (RS.num 8 (⟨b, false⟩ : RS)).1) rfl rfl ik_172 ik_3 (toI_wrap (by omega))) ?_
 refine sp pM ?_
 refine sa ?_
 refine cai rfl rfl rfl (rd_Num (rb := rb) (s := (RS.num 8 (⟨b, false⟩ : RS)).2) (k := 4) k1 (by first | omega | (show b.length ≤ 1000000; omega)) (by decide) (by decide)) ?_
 refine sp (by first | exact pCvK ik_172 ik_3 | exact pConv rfl rfl ik_172 ik_3 rfl) ?_
 refine sp (pBuild rfl st_35 ze_35 rfl rfl rfl rfl) ?_
 refine sq ?_
 refine qAlloc rfl rfl (by decide) ze_35 rfl (fun b5 => ?_)
 refine sa ?_
 refine oStW rfl rfl rfl rfl (by repeat constructor) ty_35 ?_
 refine oNil ?_
 refine aSeq ?_
 refine aSeq ?_
 refine aWeak (weak_nil 55 3) ?_
 refine aReg ?_
 refine sp pM ?_
 refine sa ?_
 refine cai rfl rfl rfl (rd_Num (rb := rb) (s := (RS.num 4 (RS.num 8 (⟨b, false⟩ : RS)).2).2) (k := 1) k2 (by first | omega | (show b.length ≤ 1000000; omega)) (by decide) (by decide)) ?_
 refine sp pM ?_
 refine oNil ?_
 refine aBlock ?_
 refine loopF (α := Nat × List Lsa × RS × Option Nat × Nat) (kept := [(2, _), (4, _), (5, _), (18, _)]) (fun (i, out, r, g, c) => i ≤ (RS.num 1 (RS.num 4 (RS.num 8 (⟨b, false⟩ : RS)).2).2).1 ∧ out.length ≤ i ∧ BOk r.b ∧ r.b.length ≤ 1000000 ∧ rdDb (RS.num 1 (RS.num 4 (RS.num 8 (⟨b, false⟩ : RS)).2).2).1 (RS.num 1 (RS.num 4 (RS.num 8 (⟨b, false⟩ : RS)).2).2).2 = (out ++ (rdDb ((RS.num 1 (RS.num 4 (RS.num 8 (⟨b, false⟩ : RS)).2).2).1 - i) r).1, (rdDb ((RS.num 1 (RS.num 4 (RS.num 8 (⟨b, false⟩ : RS)).2).2).1 - i) r).2)) (fun (i, out, r, g, c) => [(19, .v (.int .u64 (i : Int)))]) (fun (i, out, r, g, c) => [.sl g c 55 3 (out.map lsaC), .box b5 [.v (slV g out.length c), .int (toI (RS.num 8 (⟨b, false⟩ : RS)).1), .int ((RS.num 4 (RS.num 8 (⟨b, false⟩ : RS)).2).1 : Int), .v (.slice none 0 0)], .box rb [bsA (r).b, .v (.bool (r).w)]]) (fun (i, out, r, g, c) => (RS.num 1 (RS.num 4 (RS.num 8 (⟨b, false⟩ : RS)).2).2).1 - i) (0, [], (RS.num 1 (RS.num 4 (RS.num 8 (⟨b, false⟩ : RS)).2).2).2, _, _) ?_ ⟨rfl, rfl, rfl, rfl, rfl, trivial⟩ (by repeat constructor) ?_
 ·skip
  exact ⟨by omega, by simp, k3, by show (RS.num 1 (RS.num 4 (RS.num 8 (⟨b, false⟩ : RS)).2).2).2.b.length ≤ 1000000; omega, by simp⟩
 ·rintro ⟨i, out, r, g, c⟩ ⟨hi, hol, hrk, hrb, hv⟩
  refine aSeq ?_
  refine aReg ?_
  refine sp pB ?_
  refine oNil ?_
  refine aSeq ?_
  refine aCondDec rfl (fun c20 => ?_) (fun c20 => ?_)
  ·skip
   refine aSkip ?_
   refine aSeq ?_
   refine aBlock ?_
   refine aSeq ?_
   refine aReg ?_
   refine sp pM ?_
   refine sa ?_
   refine cai rfl rfl rfl (lsa_Read (rb := rb) (s := r) hrk hrb) ?_
   refine sp pM ?_
   refine sp pX ?_
   refine sp pX ?_
   refine sq ?_
   refine qAlloc rfl rfl (by decide) ze_55 rfl (fun b6 => ?_)
   refine sa ?_
   refine oStW rfl rfl rfl rfl (by repeat constructor) ty_55 ?_
   refine sp pMa ?_
   refine oNil ?_
   refine aSeq ?_
   refine aSeq ?_
   refine aReg ?_
   refine sp pM ?_
   refine sp pNo ?_
   refine oNil ?_
   refine aCondNot rfl (fun c27 => ?_) (fun c27 => ?_)
   ·skip
    refine aSeq ?_
    refine aReg ?_
    refine sp (pBuild rfl st_35 ze_35 rfl rfl rfl rfl) ?_
    refine sa ?_
    refine oStW rfl rfl rfl rfl (by repeat constructor) ty_35 ?_
    refine sp pMa ?_
    refine oNil ?_
    have hro : rdLsaOk r = false := by simp_all
    have hst := rdDb_no (k := (RS.num 1 (RS.num 4 (RS.num 8 (⟨b, false⟩ : RS)).2).2).1 - i - 1) hro
    rw [show (RS.num 1 (RS.num 4 (RS.num 8 (⟨b, false⟩ : RS)).2).2).1 - i - 1 + 1 = (RS.num 1 (RS.num 4 (RS.num 8 (⟨b, false⟩ : RS)).2).2).1 - i by omega] at hst
    rw [hst] at hv
    have hG : getS b = none := by rw [getS_eq, hv]; simp
    rw [hG]
    refine aRet ?_
    refine finRIs (l := [.agg (stC st0), .int 2]) (.cons (.cast (a := .agg [.v (.slice none 0 0), .int 0, .int 0, .v (.slice none 0 0)]) (.cellA rfl (by repeat (first | exact List.mem_cons_self | apply List.mem_cons_of_mem)) ty_35) cast_st0) (.cons (.tmp rfl) .nil)) rfl
   ·skip
    refine aSkip ?_
    have hro : rdLsaOk r = true := by simp_all
    have hst := rdDb_yes (k := (RS.num 1 (RS.num 4 (RS.num 8 (⟨b, false⟩ : RS)).2).2).1 - i - 1) hro
    rw [show (RS.num 1 (RS.num 4 (RS.num 8 (⟨b, false⟩ : RS)).2).2).1 - i - 1 + 1 = (RS.num 1 (RS.num 4 (RS.num 8 (⟨b, false⟩ : RS)).2).2).1 - i by omega] at hst
    rw [show rdLsa r = (rdLsaX r).1 by unfold rdLsa; rw [hro]; rfl]
    refine aReg ?_
    refine sp (pFb fd_35_0) ?_
    refine sr (rB1 ty_32) ?_
    refine sr (by first | exact rBWa ty_55 | exact rBW ty_55 | exact rBA ty_55) ?_
    refine sq ?_
    refine qLit (l := [_]) rfl rfl (by decide) us_32 ty_55 ze_55 rfl (by decide) (by decide) rfl rfl rfl (fun b32 => ?_)
    refine sa ?_
    refine oAppT [_] rfl rfl (by repeat constructor) (srcOwn rfl (by repeat constructor) rfl) el_32 sl_32 (fun g33 k33 => ?_)
    refine sp (pFb fd_35_0) ?_
    refine sa ?_
    refine oStB rfl rfl rfl rfl (by repeat constructor) ty_32 rfl (Nat.le_of_ble_eq_true rfl) rfl ?_
    refine oNil ?_
    refine aReg ?_
    refine sp (by first | exact pAdK | exact pB) ?_
    refine sp pM ?_
    refine oNil ?_
    refine ⟨(i + 1, _, (rdLsaX r).2, _, _), ?_, by (try dsimp only); omega, ⟨rfl, rfl, rfl, rfl, rfl, trivial⟩, _, (by repeat constructor)⟩
    refine ⟨by omega, by rw [List.length_append]; simp only [List.length_cons, List.length_nil]; omega, (rdLsaX_ok hrk).1, Nat.le_trans (rdLsaX_ok hrk).2 hrb, ?_⟩
    rw [hv, hst, show (RS.num 1 (RS.num 4 (RS.num 8 (⟨b, false⟩ : RS)).2).2).1 - i - 1 = (RS.num 1 (RS.num 4 (RS.num 8 (⟨b, false⟩ : RS)).2).2).1 - (i + 1) by omega, List.append_assoc]
    rfl
  ·skip
   refine aExit rfl ?_
   refine aSeq ?_
   refine aSeq ?_
   obtain rfl : i = (RS.num 1 (RS.num 4 (RS.num 8 (⟨b, false⟩ : RS)).2).2).1 := by omega
   rw [Nat.sub_self, show rdDb 0 r = ([], r, true) from rfl, List.append_nil] at hv
   have j1 := RS.num_ok 1 hrk
   have j2 := RS.num_len 1 r
   have j3 := num_lt1 hrk
   refine aWeak (weak_settleB (b := b5) (j := 0) (.cons (by repeat constructor) (.cons (by repeat constructor) .nil)) rfl (by simp)) ?_
   refine aWeak (weak_nil 132 2) ?_
   refine aReg ?_
   refine sp pM ?_
   refine sa ?_
   refine cai rfl rfl rfl (rd_Num (rb := rb) (s := r) (k := 1) hrk (by first | omega | (show b.length ≤ 1000000; omega)) (by decide) (by decide)) ?_
   refine sp pM ?_
   refine oNil ?_
   refine aBlock ?_
   refine loopF (α := Nat × List Ep × RS × Option Nat × Nat) (kept := [(2, _), (4, _), (5, _), (37, _)]) (fun (j, eps, q, g2, c2) => j ≤ (RS.num 1 r).1 ∧ eps.length ≤ j ∧ BOk q.b ∧ q.b.length ≤ 1000000 ∧ rdEps (RS.num 1 r).1 (RS.num 1 r).2 = (eps ++ (rdEps ((RS.num 1 r).1 - j) q).1, (rdEps ((RS.num 1 r).1 - j) q).2)) (fun (j, eps, q, g2, c2) => [(38, .v (.int .u64 (j : Int)))]) (fun (j, eps, q, g2, c2) => [.sl g2 c2 132 2 (eps.map epC), .box b5 [.sl 3 (out.map lsaC), .int (toI (RS.num 8 (⟨b, false⟩ : RS)).1), .int ((RS.num 4 (RS.num 8 (⟨b, false⟩ : RS)).2).1 : Int), .v (slV g2 eps.length c2)], .box rb [bsA (q).b, .v (.bool (q).w)]]) (fun (j, eps, q, g2, c2) => (RS.num 1 r).1 - j) (0, [], (RS.num 1 r).2, _, _) ?_ ⟨rfl, rfl, rfl, rfl, rfl, trivial⟩ (by repeat constructor) ?_
   ·skip
    exact ⟨by omega, by simp, j1, by show (RS.num 1 r).2.b.length ≤ 1000000; omega, by simp⟩
   ·rintro ⟨j, eps, q, g2, c2⟩ ⟨hj, hel, hqk, hqb, hve⟩
    refine aSeq ?_
    refine aReg ?_
    refine sp pB ?_
    refine oNil ?_
    refine aSeq ?_
    refine aCondDec rfl (fun c39 => ?_) (fun c39 => ?_)
    ·skip
     refine aSkip ?_
     refine aSeq ?_
     refine aBlock ?_
     have hst := rdEps_step (k := (RS.num 1 r).1 - j - 1) (s := q)
     rw [show (RS.num 1 r).1 - j - 1 + 1 = (RS.num 1 r).1 - j by omega] at hst
     have n1 := num_lt1 hqk
     have n2 := num_lt4 (RS.num_ok 1 hqk)
     have p1 := RS.num_len 1 q
     have p2 := RS.num_len 4 (q.num 1).2
     refine aDrawS (h1 := [.box b5 _, .sl g2 _ _ _ _]) base_Get_r12_t base_Get_r12_b [10, 12] 13 #[false, false, false, false, false, false, false, false, false, false, false, false, false] (by kernel_rfl) rfl rfl (.cons (by repeat constructor) (.cons (by repeat constructor) .nil)) (fun HT => ?_)
     refine ep HT 0 rfl (pFb fd_35_3) ?_
     refine er HT 1 rfl (rB1 ty_33) ?_
     refine ep HT 2 rfl pM ?_
     refine ep HT 5 rfl pM ?_
     refine eOneS (i := 3) #[true, true, true, true, false, true, false, false, false, false, false, false, false] rfl (HT.one (by kernel_rfl)) (by decide) ?_
     ·skip
      refine stA (hx := [.box rb [bsA (q).b, .v (.bool (q).w)]]) (wantN rfl) (fun t ht => by cases ht <;> decide) (.cons (by repeat constructor) .nil) (by repeat constructor) ?_
      refine cai rfl rfl rfl (rd_Num (rb := rb) (s := q) (k := 1) hqk (by first | omega | (show b.length ≤ 1000000; omega)) (by decide) (by decide)) ?_
      refine undel (d := 43) rfl ?_
      try dsimp only [List.cons_append, List.nil_append]
      refine ef HT 4 rfl (by first | exact pCvK ik_172 ik_3 | exact pConv rfl rfl ik_172 ik_3 rfl) ?_
      refine eOneS (i := 6) #[true, true, true, true, true, true, true, false, false, false, false, false, false] rfl (HT.one (by kernel_rfl)) (by decide) ?_
      ·skip
       refine stA (hx := [.box rb [bsA ((q.num 1).2).b, .v (.bool ((q.num 1).2).w)]]) (wantN rfl) (fun t ht => by cases ht <;> decide) (.cons (by repeat constructor) .nil) (by repeat constructor) ?_
       refine cai rfl rfl rfl (rd_Num (rb := rb) (s := (q.num 1).2) (k := 4) (RS.num_ok 1 hqk) (by first | omega | (show b.length ≤ 1000000; omega)) (by decide) (by decide)) ?_
       refine undel (d := 46) rfl ?_
       try dsimp only [List.cons_append, List.nil_append]
       refine ef HT 7 rfl (by first | exact pCvK ik_172 ik_3 | exact pConv rfl rfl ik_172 ik_3 rfl) ?_
       refine ef HT 8 rfl (pBuild rfl st_132 ze_132 rfl rfl rfl rfl) ?_
       refine e1 HT 9 rfl ?_
       refine qLit (l := [_]) rfl rfl (by decide) us_33 ty_132 ze_132 rfl (by decide) (by decide) rfl rfl rfl (fun b49 => ?_)
       refine eLast ?_
       refine f1 HT 10 rfl ?_
       refine oAppT ([⟨(q.num 1).1, ((q.num 1).2.num 4).1⟩] : List Ep) rfl rfl (by repeat constructor) (srcOwn rfl (by repeat constructor) rfl) el_33 sl_33 (fun g50 k50 => ?_)
       refine fp HT 11 rfl (pFb fd_35_3) ?_
       refine f1 HT 12 rfl ?_
       refine oStB rfl rfl rfl rfl (by repeat constructor) ty_33 rfl (Nat.le_of_ble_eq_true rfl) rfl ?_
       refine fE HT ?_
       clear HT
       refine aReg ?_
       refine sp (by first | exact pAdK | exact pB) ?_
       refine sp pM ?_
       refine oNil ?_
       refine ⟨(j + 1, _, ((q.num 1).2.num 4).2, _, _), ?_, by (try dsimp only); omega, ⟨rfl, rfl, rfl, rfl, rfl, trivial⟩, _, (by repeat constructor)⟩
       refine ⟨by omega, by rw [List.length_append]; simp only [List.length_cons, List.length_nil]; omega, RS.num_ok 4 (RS.num_ok 1 hqk), by show ((q.num 1).2.num 4).2.b.length ≤ 1000000; omega, ?_⟩
       rw [hve, hst, show (RS.num 1 r).1 - j - 1 = (RS.num 1 r).1 - (j + 1) by omega, List.append_assoc]
       rfl
    ·skip
     refine aExit rfl ?_
     refine aSeq ?_
     refine aSeq ?_
     obtain rfl : j = (RS.num 1 r).1 := by omega
     rw [Nat.sub_self, show rdEps 0 q = ([], q) from rfl, List.append_nil] at hve
     refine aWeak (weak_settleB (b := b5) (j := 3) (.cons (by repeat constructor) (.cons (by repeat constructor) .nil)) rfl (by simp)) ?_
     refine aWeak (weak_box (b := b5) (cs' := stC (⟨out, toI (RS.num 8 (⟨b, false⟩ : RS)).1, ((RS.num 4 (RS.num 8 (⟨b, false⟩ : RS)).2).1 : Int), eps⟩ : St)) (by repeat constructor) rfl) ?_
     have hG : getS b = if (!q.w && decide (q.b.length = 0)) && okS (⟨out, toI (RS.num 8 (⟨b, false⟩ : RS)).1, ((RS.num 4 (RS.num 8 (⟨b, false⟩ : RS)).2).1 : Int), eps⟩ : St) then some (⟨out, toI (RS.num 8 (⟨b, false⟩ : RS)).1, ((RS.num 4 (RS.num 8 (⟨b, false⟩ : RS)).2).1 : Int), eps⟩ : St) else none := by
       rw [getS_eq, hv]
       simp only
       rw [if_pos trivial, hve]
     refine aReg ?_
     refine sp pM ?_
     refine sa ?_
     refine cai rfl rfl rfl (rd_Done (rb := rb) (s := q)) ?_
     refine sp pNo ?_
     refine sp pM ?_
     refine oSplitNot 56 rfl (fun c56 => ?_) (fun c56 => ?_)
     ·skip
      refine gf ?_
      refine gf ?_
      refine gf ?_
      refine sp pK ?_
      refine oNil ?_
      refine aCondT rfl ?_
      refine aSeq ?_
      refine aReg ?_
      refine sp (pBuild rfl st_35 ze_35 rfl rfl rfl rfl) ?_
      refine sa ?_
      refine oStW rfl rfl rfl rfl (by repeat constructor) ty_35 ?_
      refine sp pMa ?_
      refine oNil ?_
      have hN : getS b = none := by rw [hG, if_neg]; simp_all
      rw [hN]
      refine aRet ?_
      refine finRIs (l := [.agg (stC st0), .int 2]) (.cons (.cast (a := .agg [.v (.slice none 0 0), .int 0, .int 0, .v (.slice none 0 0)]) (.cellA rfl (by repeat (first | exact List.mem_cons_self | apply List.mem_cons_of_mem)) ty_35) cast_st0) (.cons (.tmp rfl) .nil)) rfl
     ·skip
      refine gr (by first | exact rBWa ty_35 | exact rBW ty_35 | exact rBA ty_35) ?_
      refine ga ?_
      refine (ci rfl rfl rfl (base_Check (s := (⟨out, toI (RS.num 8 (⟨b, false⟩ : RS)).1, ((RS.num 4 (RS.num 8 (⟨b, false⟩ : RS)).2).1 : Int), eps⟩ : St)) (by show out.length ≤ 1000000; omega) (by show eps.length ≤ 1000000; omega)) ?_).op
      refine gp pB ?_
      refine sp pK ?_
      refine oNil ?_
      refine aCondNe rfl (fun c60 => ?_) (fun c60 => ?_)
      ·skip
       refine aSeq ?_
       refine aReg ?_
       refine sp (pBuild rfl st_35 ze_35 rfl rfl rfl rfl) ?_
       refine sa ?_
       refine oStW rfl rfl rfl rfl (by repeat constructor) ty_35 ?_
       refine sp pMa ?_
       refine oNil ?_
       have hN : getS b = none := by rw [hG, if_neg]; simp_all
       rw [hN]
       refine aRet ?_
       refine finRIs (l := [.agg (stC st0), .int 2]) (.cons (.cast (a := .agg [.v (.slice none 0 0), .int 0, .int 0, .v (.slice none 0 0)]) (.cellA rfl (by repeat (first | exact List.mem_cons_self | apply List.mem_cons_of_mem)) ty_35) cast_st0) (.cons (.tmp rfl) .nil)) rfl
      ·skip
       refine aSkip ?_
       refine aSeq ?_
       refine aReg ?_
       refine sr (by first | exact rBWa ty_35 | exact rBW ty_35 | exact rBA ty_35) ?_
       refine sa ?_
       refine oStW rfl rfl rfl rfl (by repeat constructor) ty_35 ?_
       refine sp pMa ?_
       refine oNil ?_
       have hN : getS b = some (⟨out, toI (RS.num 8 (⟨b, false⟩ : RS)).1, ((RS.num 4 (RS.num 8 (⟨b, false⟩ : RS)).2).1 : Int), eps⟩ : St) := by rw [hG, if_pos]; simp_all
       rw [hN]
       refine aRet ?_
       refine finRIs (l := [.agg (stC (⟨out, toI (RS.num 8 (⟨b, false⟩ : RS)).1, ((RS.num 4 (RS.num 8 (⟨b, false⟩ : RS)).2).1 : Int), eps⟩ : St)), .int 0]) (.cons (.cellA rfl (by repeat (first | exact List.mem_cons_self | apply List.mem_cons_of_mem)) ty_35) (.cons (.tmp rfl) .nil)) rfl
end A
end Go.Proofs.YthkgdhamnpiagaaGreat
namespace Go.Proofs.YthkgdhamnpiagaaGreat
namespace A
variable {P : Program} {N : Nat} {env : Env} {h : List HA} {K : Cont} {X : List (Nat × Cont)} {Rt : Cont}
/-- As R.wrote, but the slice may grow within its room. -/
theorem R.wroteG {F : Nat → Prop} {w : World} {b c e sz : Nat} {es es' : List (List AV)} {h' : List HA} (r : R F h w) (hs : Spl h (.sl (some b) c e sz es) h') {cur cells : Array Value} {q : Nat} (hg : w.heap[b]? = some (.cells cur e (0, 0))) (hfit : q + cells.size ≤ c * sz) (h1 : ∀ x ∈ cells, x.oneCell' = true)
   (hl : es'.length ≤ c) (hz : ∀ y ∈ es', y.length = sz) (hcov : ∀ k, k < es'.length * sz → (q ≤ k ∧ k < q + cells.size) ∨ k < es.length * sz)
   (hnew : ∀ (i j : Nat) y av, es'[i]? = some y → y[j]? = some av → (q ≤ i * sz + j ∧ i * sz + j < q + cells.size ∧ ∀ x, cells[i * sz + j - q]? = some x → Rep F w av x) ∨ (¬ (q ≤ i * sz + j ∧ i * sz + j < q + cells.size) ∧ ∃ y0, es[i]? = some y0 ∧ y0[j]? = some av)) :
   R F (.sl (some b) c e sz es' :: h') (w.setRow b (cur.toList.take q ++ cells.toList ++ cur.toList.drop (q + cells.size)).toArray) ∧ Ext F h w F (.sl (some b) c e sz es' :: h') (w.setRow b (cur.toList.take q ++ cells.toList ++ cur.toList.drop (q + cells.size)).toArray) := by
 obtain ⟨cur2, hg2, hnc, hcm, hcs, hzz, hone, hrep⟩ := row_of (r.rep _ (spl_mem hs))
 rw [hg] at hg2
 cases hg2
 have hcl : es'.length * sz ≤ cur.size := by rw [hcs]; exact Nat.mul_le_mul_right _ hl
 have hset : ∀ k, F k → (w.setRow b (cur.toList.take q ++ cells.toList ++ cur.toList.drop (q + cells.size)).toArray).heap[k]? = w.heap[k]? := fun k hk => setRow_other w b k _ (fun e => (r.sep k hk).2 (e ▸ own_sl hs))
 have hget : ∀ k, (cur.toList.take q ++ cells.toList ++ cur.toList.drop (q + cells.size))[k]? = if q ≤ k ∧ k < q + cells.size then cells[k - q]? else cur[k]? := fun k => by
   rw [splice_get (n := cells.size) (by simp) (by simp; omega)]
   simp
 refine r.upd (x' := .sl (some b) c e sz es') hs rfl rfl rfl rfl (by simp) (fun k hk => setRow_other w b k _ (by simpa [HA.own] using hk)) ?_
 rw [HARep]
 refine ⟨(cur.toList.take q ++ cells.toList ++ cur.toList.drop (q + cells.size)).take (es'.length * sz), ⟨?_, .inr ⟨b, c, _, rfl, Nat.zero_le _, setRow_heap w b cur _ e _ hg, hl, hcm, ?_, rfl⟩⟩, hz, ?_, ?_⟩
 ·simp only [List.length_take, List.length_append, List.length_drop, Array.length_toList]
  omega
 ·simp only [List.size_toArray, List.length_append, List.length_take, List.length_drop, Array.length_toList]
  omega
 ·intro x hx
  obtain ⟨k, hk⟩ := List.mem_iff_getElem?.1 hx
  have hkl : k < es'.length * sz := by have := (List.getElem?_eq_some_iff.1 hk).1; simp at this; omega
  rw [List.getElem?_take_of_lt hkl, hget] at hk
  split at hk
  ·exact h1 x (Array.mem_of_getElem? hk)
  ·have hko : k < es.length * sz := by
     rcases hcov k hkl with h | h
     ·contradiction
     ·exact h
   exact hone x (List.mem_of_getElem? (i := k) (by rw [List.getElem?_take_of_lt hko]; simpa using hk))
 ·intro i j y av x hi hj hx
  have hil : i < es'.length := (List.getElem?_eq_some_iff.1 hi).1
  have hjl : j < sz := by rw [← hz y (List.mem_of_getElem? hi)]; exact (List.getElem?_eq_some_iff.1 hj).1
  rw [List.getElem?_take_of_lt (idx_lt hil hjl), hget] at hx
  rcases hnew i j y av hi hj with ⟨a1, a2, a3⟩ | ⟨a1, y0, a2, a3⟩
  ·rw [if_pos ⟨a1, a2⟩] at hx
   exact (a3 x hx).mono (fun _ h => h) hset
  ·rw [if_neg a1] at hx
   exact (hrep i j y0 av x a2 a3 hx).mono (fun _ h => h) hset
/-- What is copied: the slice's length, and the first of its elements. -/
def SrcG (P : Program) (N : Nat) (env : Env) (h : List HA) (y : Operand) (sz lenv : Nat) (ns : List (List AV)) : Prop :=
 (∀ z ∈ ns, z.length = sz) ∧ ∀ F a w, Sat N F env h a w → ∃ news : List Value, (Builtin.lenOf (a.eval y)).run P w = .ok lenv w ∧ (Builtin.firstCells sz ns.length (a.eval y)).run P w = .ok news.toArray w ∧ news.length = ns.length * sz ∧ (∀ x ∈ news, x.oneCell' = true) ∧
   ∀ (i j : Nat) z av v, ns[i]? = some z → z[j]? = some av → news[i * sz + j]? = some v → Rep F w av v
/-- A part of a slice of the call's own. -/
theorem srcG_at {y : Operand} {b c e sz k cnt L cp : Nat} {es : List (List AV)} {h' : List HA} (hy : ev env y = some (.v (.slice (some ⟨b, k * sz, none⟩) L cp))) (hs : Spl h (.sl (some b) c e sz es) h') (hk : k + cnt ≤ es.length) (hz : ∀ z ∈ es, z.length = sz) : SrcG P N env h y sz L ((es.drop k).take cnt) := by
 have hl : ((es.drop k).take cnt).length = cnt := by rw [List.length_take, List.length_drop]; omega
 refine ⟨fun z hz' => hz z (List.mem_of_mem_drop (List.mem_of_mem_take hz')), fun F a w s => ?_⟩
 ·have hyv := s.ev hy
  generalize hv : a.eval y = vy at hyv
  cases hyv
  obtain ⟨xs, h1, h2, h3, h4, h5⟩ := own_cells (s.r.rep _ (spl_mem hs))
  have e1 : (k + cnt) * sz ≤ es.length * sz := Nat.mul_le_mul_right _ hk
  rw [Nat.add_mul] at e1
  have hll : ((xs.drop (k * sz)).take (cnt * sz)).length = cnt * sz := by rw [List.length_take, List.length_drop]; omega
  refine ⟨(xs.drop (k * sz)).take (cnt * sz), by simp [Builtin.lenOf], ?_, by rw [hl, hll], fun x hx => h3 x (List.mem_of_mem_drop (List.mem_of_mem_take hx)), fun i j z av v hi hj hv2 => ?_⟩
  ·rw [hl]
   simp only [Builtin.firstCells]
   have hrun := run_loadCells_list (P := P) w ⟨b, k * sz, none⟩ ((xs.drop (k * sz)).take (cnt * sz)) (fun j u hj => by
     rw [List.getElem?_take] at hj
     split at hj
     ·rw [List.getElem?_drop] at hj
      rw [add_none]
      exact h4 _ _ hj
     ·cases hj)
   rw [hll] at hrun
   exact hrun
  ·rw [List.getElem?_take] at hi hv2
   split at hi
   ·split at hv2
    ·rw [List.getElem?_drop] at hi hv2
     refine h5 (k + i) j z av v hi hj ?_
     rw [Nat.add_mul, Nat.add_assoc]
     exact hv2
    ·cases hv2
   ·cases hi
theorem srcG_is {y : Operand} {sz by_ : Nat} {t e : TypeId} {ns : List (List AV)} (hs : SrcIs env h y sz ns) (ht : elemOf P t = some (e, sz, by_)) (hz : ∀ z ∈ ns, z.length = sz) : SrcG P N env h y sz ns.length ns := by
 obtain ⟨hu, _⟩ := elemOf_spec ht
 refine ⟨hz, fun F a w s => ?_⟩
 rcases hs with hy | ⟨g, c, e', hy, hm⟩
 ·have hyv := s.ev hy
  obtain ⟨news, hsrc, hr⟩ := src_sl (h := h) hu hyv
  exact ⟨news, hsrc.len w, hsrc.cells, hsrc.newsLen, hsrc.one, hr⟩
 ·have hyv := s.ev hy
  generalize hv : a.eval y = vy at hyv
  cases hyv
  obtain ⟨news, hsrc, hr⟩ := src_own (P := P) (h := h) hu (s.r.rep _ hm)
  exact ⟨news, hsrc.len w, hsrc.cells, hsrc.newsLen, hsrc.one, hr⟩
/-- 'copy' into a slice of the call's own, from a place on. -/
theorem oCopyG {o : Oper} {t t' e : TypeId} {x y : Operand} {d b c sz k L cp lenv by_ : Nat} {es ns : List (List AV)} {h' : List HA} (ho : o.op = .call ⟨.builtin .copy, #[x, y], #[t, t']⟩) (hd : o.dst = some d) (hN : d < N) (hx : ev env x = some (.v (.slice (some ⟨b, k * sz, none⟩) L cp)))
   (hsrc : SrcG P N env h y sz lenv ns) (hmin : Nat.min lenv L = ns.length) (hs : Spl h (.sl (some b) c e sz es) h') (ht : elemOf P t = some (e, sz, by_)) (hkn : k ≤ es.length) (hfit : k + ns.length ≤ c)
   (hK : K ((d, .int (ns.length : Nat)) :: env) (.sl (some b) c e sz (es.take k ++ ns ++ es.drop (k + ns.length)) :: h')) : AOp P N o env h K := by
 intro B F a w Q s ex hdef
 obtain ⟨hu, i, z, hi, hzz, hisz, hzs, h0, hby⟩ := elemOf_spec ht
 have hxv := s.ev hx
 generalize hv : a.eval x = vx at hxv
 cases hxv
 obtain ⟨cur, hg, hnc, hcm, hcs, hzz', hone, hrep⟩ := row_of (s.r.rep _ (spl_mem hs))
 obtain ⟨hnz, hS⟩ := hsrc
 obtain ⟨news, hlen, hfc, hnl, hn1, hnr⟩ := hS F a w s
 have f1 : (k + ns.length) * sz ≤ c * sz := Nat.mul_le_mul_right _ hfit
 rw [Nat.add_mul] at f1
 have f2 : k * sz ≤ es.length * sz := Nat.mul_le_mul_right _ hkn
 have hst := run_storeCells_at P b (k * sz) e news 0 cur w hg (by omega) hn1
 simp only [Nat.add_zero] at hst
 have hel : (es.take k).length = k := by rw [List.length_take]; omega
 have hl' : (es.take k ++ ns ++ es.drop (k + ns.length)).length = k + ns.length + (es.length - (k + ns.length)) := by
   rw [List.length_append, List.length_append, hel, List.length_drop]
 have hz2 : ∀ y ∈ es.take k ++ ns ++ es.drop (k + ns.length), y.length = sz := fun y hy => by
   rcases List.mem_append.1 hy with hy | hy
   ·rcases List.mem_append.1 hy with hy | hy
    ·exact hzz' y (List.mem_of_mem_take hy)
    ·exact hnz y hy
   ·exact hzz' y (List.mem_of_mem_drop hy)
 obtain ⟨hR, hE⟩ := R.wroteG s.r (es' := es.take k ++ ns ++ es.drop (k + ns.length)) (cells := news.toArray) (q := k * sz) hs hg (by simp only [List.size_toArray]; omega) (by simpa using hn1) (by rw [hl']; omega) hz2 (by
   intro j hj
   simp only [List.size_toArray]
   rw [hl'] at hj
   by_cases hc : k + ns.length ≤ es.length
   ·right
    rwa [show k + ns.length + (es.length - (k + ns.length)) = es.length by omega] at hj
   ·rw [show k + ns.length + (es.length - (k + ns.length)) = k + ns.length by omega, Nat.add_mul] at hj
    by_cases h1 : k * sz ≤ j
    ·left; omega
    ·right; omega) (by
   intro p j y av hp hj
   have hyl := hz2 y (List.mem_of_getElem? hp)
   have hjl : j < sz := by rw [← hyl]; exact (List.getElem?_eq_some_iff.1 hj).1
   simp only [List.size_toArray]
   by_cases h1 : p < k
   ·right
    have f3 : (p + 1) * sz ≤ k * sz := Nat.mul_le_mul_right _ (by omega)
    rw [Nat.add_mul, Nat.one_mul] at f3
    refine ⟨by omega, y, ?_, hj⟩
    rw [List.append_assoc, List.getElem?_append_left (by omega), List.getElem?_take_of_lt h1] at hp
    exact hp
   ·by_cases h2 : p < k + ns.length
    ·left
     have f3 : k * sz ≤ p * sz := Nat.mul_le_mul_right _ (by omega)
     have f4 : (p + 1) * sz ≤ (k + ns.length) * sz := Nat.mul_le_mul_right _ (by omega)
     rw [Nat.add_mul, Nat.one_mul, Nat.add_mul] at f4
     refine ⟨by omega, by omega, fun v hv2 => ?_⟩
     rw [List.append_assoc, List.getElem?_append_right (by omega), hel, List.getElem?_append_left (by omega)] at hp
     refine hnr (p - k) j y av v hp hj ?_
     rw [List.getElem?_toArray] at hv2
     rw [← hv2]
     congr 1
     rw [Nat.sub_mul]
     omega
    ·right
     have f3 : (k + ns.length) * sz ≤ p * sz := Nat.mul_le_mul_right _ (by omega)
     rw [Nat.add_mul] at f3
     refine ⟨by omega, y, ?_, hj⟩
     rw [List.getElem?_append_right (by rw [List.length_append]; omega), List.length_append, hel, List.getElem?_drop] at hp
     rw [← hp]
     congr 1
     omega)
 simp only [List.size_toArray] at hR hE
 have hrun : (execOp a.eval o).run P w = .ok (.value (.int .i64 (ns.length : Nat))) (w.setRow b (cur.toList.take (k * sz) ++ news ++ cur.toList.drop (k * sz + news.length)).toArray) := by
   simp only [execOp, ho, resolve, Sem.run_bind, Sem.run_pure, Result.andThen_ok, invoke, builtin]
   simp only [List.map_toArray, List.map_cons, List.map_nil, hv]
   simp [Builtin.copy_, run_underlying hu, sizeOf, typeInfo, hi, hisz, hlen, hmin, hfc, hst, goInt]
 unfold Oper.wp
 rw [hrun, Oper.upon_value, hd]
 exact ⟨hdef, F, _, _, hK, s.put hE hR hN (.v _), ex.trans hE⟩
end A
end Go.Proofs.YthkgdhamnpiagaaGreat
namespace Go.Proofs.YthkgdhamnpiagaaGreat
namespace A
variable {P : Program} {N : Nat} {env : Env} {h : List HA} {K : Cont} {X : List (Nat × Cont)} {Rt : Cont}
theorem run_appendZG {w : World} {t tx ty e : TypeId} {i : TypeInfo} {z : Value} {sz : Nat} {g : Option Nat} {n c m : Nat} {xs : List Value} {k kn : IntKind} (ht : P.underlying t = some (.slice e)) (htn : P.underlying tx = some (.int kn)) (hi : P.info? e = some i) (hz : i.zero = some z) (hsz : i.size = sz) (hzs : z.cells.size = sz) (h0 : 0 < sz) (hm0 : 0 < m)
   (ho : w.ownsRow 0 e sz (slV g n c) n xs) (h1 : z.cells.toList.all (·.oneCell') = true) (hgr : c < n + m) (h63 : n + m ≤ 9223372036854775807) (hby : (n + m) * i.bytes ≤ 140737488355328) :
   ∃ b' c' w', (Builtin.append_ #[t, tx] ty #[slV g n c, .int k m]).run P w = .ok (slV (some b') (n + m) c') w' ∧ w'.ownsRow 0 e sz (slV (some b') (n + m) c') (n + m) (xs ++ (Builtin.zeroCells z.cells m).toList) ∧ w'.os = w.os ∧ w'.output = w.output ∧ w'.tape = w.tape ∧ w.heap.size ≤ w'.heap.size ∧
     (b' = w.heap.size ∧ w'.heap.size = w.heap.size + 1) ∧ (∀ b, b < w.heap.size → w'.heap[b]? = w.heap[b]?) ∧ w.drawn ≤ w'.drawn ∧ n + m ≤ c' := by
 subst hsz
 have hzl : (Builtin.zeroCells z.cells m).toList.length = m * i.size := by rw [Array.length_toList, size_zeroCells', hzs]
 have hlen : (xs ++ (Builtin.zeroCells z.cells m).toList).length = (n + m) * i.size := by rw [List.length_append, ho.1, hzl, Nat.add_mul]
 have hmb : m * i.bytes ≤ 281474976710656 := by
   have : m * i.bytes ≤ (n + m) * i.bytes := Nat.mul_le_mul_right _ (by omega)
   omega
 have hone : ∀ x ∈ (Builtin.zeroCells z.cells m).toList, x.oneCell' = true := fun x hx => by
   obtain ⟨q, hq⟩ := List.mem_iff_getElem?.1 hx
   have hqlt : q < m * i.size := by have := (List.getElem?_eq_some_iff.1 hq).1; rwa [hzl] at this
   have hq2 : (Builtin.zeroCells z.cells m)[q]? = some x := by simpa using hq
   have hlt2 : q % z.cells.size < z.cells.size := Nat.mod_lt _ (by omega)
   simp only [Builtin.zeroCells, Array.getElem?_map, Array.getElem?_range, hzs, hqlt, if_true, Option.map_some, Option.some.injEq] at hq2
   rw [← hq2]
   refine List.all_eq_true.1 h1 _ ?_
   rw [← hzs]
   rw [getElem!_pos z.cells _ hlt2]
   simp
 have hold : (Builtin.firstCells i.size n (slV g n c)).run P w.drew = .ok xs.toArray w.drew := by
   rcases ho.2 with ⟨hv, hn⟩ | ⟨b, cap, cur, hv, _, hg, hnc, hcm, hcs, htake⟩
   ·have hx : xs = [] := List.eq_nil_of_length_eq_zero (by rw [ho.1, hn, Nat.zero_mul])
    rw [hv, hn, hx]
    simp [Builtin.firstCells]
   ·rw [hv]
    have := ho.cells (g := b) (by rw [hv]; rfl)
    simp only [Builtin.firstCells]
    rw [← ho.1]
    exact run_loadCells_list w.drew ⟨b, 0, none⟩ xs (fun j u hj => this j u hj)
 have hnext : Builtin.nextslicecap (n + m) c * i.bytes ≤ 281474976710656 := by
   have h1 : Builtin.nextslicecap (n + m) c ≤ 2 * (n + m) := nextslicecap_le' (by omega)
   have := Nat.mul_le_mul_right i.bytes h1
   rw [Nat.mul_assoc] at this
   omega
 have hr := run_append_grow_zeros (P := P) w t tx ty e i z k kn ht htn hi hz (g.map fun b => ⟨b, 0, none⟩) n c xs hold m hm0 h0 (by omega) (by omega) hmb hnext
 have hge := grownCap_ge w (n + m) c e
 have hml : n + m ≤ maxLen := by simp only [maxLen]; omega
 have hcm : grownCap w (n + m) c e ≤ maxLen := grownCap_le_maxLen w (n + m) c e hml
 refine ⟨w.heap.size, grownCap w (n + m) c e, _, hr, ⟨hlen, .inr ⟨w.heap.size, _, _, rfl, Nat.zero_le _, heap_new w.drew _, hge, hcm, ?_, ?_⟩⟩, rfl, rfl, rfl, by simp, ⟨rfl, by simp⟩, fun b hb => heap_old w.drew _ b hb, Nat.le_succ _, hge⟩
 ·simp only [Array.size_append, List.size_toArray, size_zeroCells', hzs, hlen, ← Nat.add_mul]
  congr 1
  omega
 ·simp only [Array.toList_append]
  rw [← hlen]
  exact List.take_left
theorem own_prefix {w : World} {e sz n c q : Nat} {g : Option Nat} {xs : List Value} (ho : w.ownsRow 0 e sz (slV g n c) n xs) (hq : q ≤ n) : w.ownsRow 0 e sz (slV g q c) q (xs.take (q * sz)) := by
 have hm : q * sz ≤ n * sz := Nat.mul_le_mul_right _ hq
 refine ⟨by rw [List.length_take, ho.1]; omega, ?_⟩
 rcases ho.2 with ⟨hv, hn⟩ | ⟨b, cap, cur, hv, h0, hg, hnc, hcm, hcs, htake⟩
 ·left
  have : q = 0 := by omega
  subst this
  refine ⟨?_, rfl⟩
  simp [slV] at hv ⊢
  exact ⟨hv.1, hv.2.2⟩
 ·right
  have hgb : g = some b ∧ c = cap := by
    cases g with
    | none => simp [slV] at hv
    | some b' => simp [slV] at hv; exact ⟨by rw [hv.1], hv.2⟩
  obtain ⟨rfl, rfl⟩ := hgb
  refine ⟨b, c, cur, rfl, h0, hg, by omega, hcm, hcs, ?_⟩
  rw [← htake, List.take_take, Nat.min_eq_left hm]
theorem oAppZg {o : Oper} {t t' e : TypeId} {x y : Operand} {k kn : IntKind} {sz by_ d q c m : Nat} {g : Option Nat} {es : List (List AV)} {z : Value} {h' : List HA} (zs : List AV) (ho : o.op = .call ⟨.builtin .append, #[x, y], #[t, t']⟩) (hd : o.dst = some d) (hN : d < N) (hx : ev env x = some (.v (slV g q c))) (hy : ev env y = some (.v (.int k (m : Int))))
   (hs : Spl h (.sl g c e sz es) h') (hq : q ≤ es.length) (hgr : c < q + m) (ht : elemOf P t = some (e, sz, by_)) (hti' : intKindOf P t' = some kn) (hz : zeroOf P e = some z) (h1 : z.cells.toList.all (·.oneCell') = true) (hzs : zs.length = sz)
   (hrep : ∀ (F : Nat → Prop) (w : World) (j : Nat) av x, zs[j]? = some av → z.cells[j]? = some x → Rep F w av x) (h0 : 0 < m) (hb : (q + m) * by_ ≤ 140737488355328) (hmx : q + m ≤ 1000000000)
   (hk : ∀ b' c', q + m ≤ c' → K ((d, .v (slV (some b') (q + m) c')) :: env) (.sl (some b') c' e sz (es.take q ++ List.replicate m zs) :: h)) : AOp P N o env h K := by
 intro B F a w Q s ex hdef
 obtain ⟨hu, i, z', hi, hzz, hisz, hzs', hsz0, hby⟩ := elemOf_spec ht
 have hze : z' = z := by
   unfold zeroOf at hz
   rw [hi, Option.bind_some, hzz] at hz
   exact Option.some.inj hz
 subst hze
 have hti := intKindOf_spec hti'
 have hxv := s.ev hx
 have hyv := s.ev hy
 obtain ⟨xs, hown, hxz, hx1, hxr⟩ := s.r.rep _ (spl_mem hs)
 obtain ⟨F2, s2, e2⟩ := weak_nil (N := N) (env := env) (h := h) e sz F a w s
 have hxr2 : ∀ (i j : Nat) y av x, es[i]? = some y → y[j]? = some av → xs[i * sz + j]? = some x → Rep F2 w av x := fun i j y av x h1 h2 h3 => (hxr i j y av x h1 h2 h3).mono e2.mono (fun _ _ => rfl)
 generalize hv : a.eval x = vx at hxv
 generalize hv2 : a.eval y = vy at hyv
 cases hxv
 cases hyv
 have hpre := own_prefix hown hq
 obtain ⟨b', c', w', hrun, ho', hos, hout, htp, hsz, hg, hkp, hdr, hge⟩ := run_appendZG (P := P) (ty := o.type) (k := k) (m := m) hu hti hi hzz hisz hzs' hsz0 h0 hpre h1 hgr (by omega) (by rw [hby]; exact hb)
 have hzl : (Builtin.zeroCells z'.cells m).toList.length = m * sz := by rw [Array.length_toList, size_zeroCells', hzs']
 have hqs : q * sz ≤ es.length * sz := Nat.mul_le_mul_right _ hq
 have hpl : (xs.take (q * sz)).length = q * sz := by rw [List.length_take, hown.1]; omega
 have htl : (es.take q).length = q := by rw [List.length_take]; omega
 have hnl : (es.take q ++ List.replicate m zs).length = q + m := by rw [List.length_append, htl, List.length_replicate]
 obtain ⟨hR, hE⟩ := s2.r.appended (w' := w') (g' := some b') (c' := c') (es := []) (ns := es.take q ++ List.replicate m zs) (xs := []) (news := xs.take (q * sz) ++ (Builtin.zeroCells z'.cells m).toList) (h' := h) .hd
   (by rw [hnl, List.length_nil, Nat.zero_add, List.nil_append]; exact ho') (by simp) (by
     intro y hy
     rw [List.nil_append] at hy
     rcases List.mem_append.1 hy with hy | hy
     ·exact hxz y (List.mem_of_mem_take hy)
     ·rw [List.eq_of_mem_replicate hy, hzs]) (by
     intro x hx
     rw [List.nil_append] at hx
     rcases List.mem_append.1 hx with hx | hx
     ·exact hx1 x (List.mem_of_mem_take hx)
     ·obtain ⟨p, hp⟩ := List.mem_iff_getElem?.1 hx
      have hp2 : (Builtin.zeroCells z'.cells m)[p]? = some x := by simpa using hp
      have hplt : p < m * sz := by have := (List.getElem?_eq_some_iff.1 hp).1; rwa [hzl] at this
      have hdiv : p / sz < m := (Nat.div_lt_iff_lt_mul hsz0).2 hplt
      have := zeroCells_at (m := m) hzs' hdiv (Nat.mod_lt p hsz0)
      rw [Nat.mul_comm (p / sz) sz, Nat.div_add_mod, hp2] at this
      exact List.all_eq_true.1 h1 x (by simpa using Array.mem_of_getElem? this.symm))
   (fun i j y av x hi => by simp at hi)
   (fun i j y av x hi hj hx => by
     by_cases hiq : i < q
     ·rw [List.getElem?_append_left (by omega), List.getElem?_take_of_lt hiq] at hi
      have hjl : j < sz := by rw [← hxz y (List.mem_of_getElem? hi)]; exact (List.getElem?_eq_some_iff.1 hj).1
      have hlt := idx_lt hiq hjl
      rw [List.getElem?_append_left (by omega), List.getElem?_take_of_lt hlt] at hx
      exact hxr2 i j y av x hi hj hx
     ·rw [List.getElem?_append_right (by omega), htl] at hi
      have hil : i - q < m := by have := (List.getElem?_eq_some_iff.1 hi).1; simpa using this
      have hy : y = zs := List.eq_of_mem_replicate (List.mem_of_getElem? hi)
      subst hy
      have hjl : j < sz := by rw [← hzs]; exact (List.getElem?_eq_some_iff.1 hj).1
      have hqi : q * sz ≤ i * sz := Nat.mul_le_mul_right _ (by omega)
      rw [List.getElem?_append_right (by omega), hpl] at hx
      have hx2 : (Builtin.zeroCells z'.cells m)[(i - q) * sz + j]? = some x := by
        rw [show i * sz + j - q * sz = (i - q) * sz + j by rw [Nat.sub_mul]; omega] at hx
        simpa using hx
      rw [zeroCells_at hzs' hil hjl] at hx2
      exact hrep F2 _ j av x hj hx2)
   hos hout htp hsz (fun b hb => .inr ⟨by cases hb; exact hg.1, hg.2⟩) (fun b hb _ => hkp b hb) hdr
 have hrun2 : (execOp a.eval o).run P w = .ok (.value (slV (some b') (q + m) c')) w' := by
   simp only [execOp, ho, resolve, Sem.run_bind, Sem.run_pure, Result.andThen_ok, invoke, builtin]
   simp only [List.map_toArray, List.map_cons, List.map_nil, hv, hv2, hrun, Result.andThen_ok]
 unfold Oper.wp
 rw [hrun2, Oper.upon_value, hd]
 rw [List.nil_append] at hR hE
 exact ⟨hdef, F2, _, _, hk _ _ hge, s2.put hE hR hN (.v _), (ex.trans e2).trans hE⟩
end A
end Go.Proofs.YthkgdhamnpiagaaGreat
