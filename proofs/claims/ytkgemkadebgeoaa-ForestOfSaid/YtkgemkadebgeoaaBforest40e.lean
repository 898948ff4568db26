/- What functions of the program compute: forest40e -/
import Derived.Test.YtkgemkadebgeoaaBforest40d
import Derived.Test.YtkgemkadebgeoaaAbs22
import Derived.Test.YtkgemkadebgeoaaProg
import Derived.KernelRfl
set_option linter.unusedVariables false
set_option linter.unusedSimpArgs false
namespace Go.Proofs.Ytkgemkadebgeoaa
namespace A

theorem st_64 : structPlaces Try.prog 64 = some [(0, 1), (1, 1), (2, 1)] := by kernel_rfl
def brgE (l : List Edge) (e : Edge) : Bool := !(reachF (okE e 0) l e.a (e.a != 0) e.b)
theorem uf_init {f : Int → Int} (h : ∀ n : Int, 0 ≤ n → n ≤ 64 → f n = n) : UF (fun _ => False) f where
  pot := ⟨fun _ => 0, ⟨fun n h0 h1 => by rw [h n h0 h1]; exact ⟨h0, h1⟩, fun n h0 h1 hn => absurd (h n h0 h1) hn⟩⟩
  conn := fun a b ha0 ha1 hb0 hb1 => ⟨fun ⟨r, h1, h2⟩ => by
    have e1 : a = r := by cases h1 with | here _ => rfl | up h3 _ => exact absurd (h a ha0 ha1) h3
    have e2 : b = r := by cases h2 with | here _ => rfl | up h3 _ => exact absurd (h b hb0 hb1) h3
    rw [e1, e2]; exact .refl _, fun hc => ⟨a, .here (h a ha0 ha1), by rw [← conn_none hc]; exact .here (h a ha0 ha1)⟩⟩
theorem ahead_iff {x y : Edge} : ahead x y = true ↔ x.c < y.c ∨ x.c = y.c ∧ (x.a < y.a ∨ x.a = y.a ∧ x.b < y.b) := by
  unfold ahead
  split <;> simp only [Bool.or_eq_true, Bool.and_eq_true, decide_eq_true_eq] <;> omega
theorem rnd_congr {ok ok' : Edge → Bool} : ∀ {l : List Edge} {f : Int → Bool}, (∀ e ∈ l, ok e = ok' e) → rnd ok l f = rnd ok' l f
  | [], _, _ => rfl
  | e :: l, f, h => by
    have e1 : rst ok f e = rst ok' f e := by unfold rst; rw [h e (by simp)]
    show rnd ok l (rst ok f e) = rnd ok' l (rst ok' f e)
    rw [e1]
    exact rnd_congr (fun x hx => h x (by simp [hx]))
theorem sat_congr {ok ok' : Edge → Bool} {l : List Edge} (h : ∀ e ∈ l, ok e = ok' e) : ∀ (k : Nat) (f : Int → Bool), sat ok l k f = sat ok' l k f
  | 0, _ => rfl
  | k + 1, f => by rw [sat, sat, rnd_congr h]; exact sat_congr h k _
theorem reach0 {l : List Edge} (hok : ∀ e ∈ l, EOk e) {n : Int} (h : 1 ≤ n) : reachF (okE ⟨0, 0, 0⟩ 0) l n (n != 0) = reachF allE l n true := by
  have e1 : (n != 0) = true := by simp; omega
  rw [e1]
  refine sat_congr (fun e he => ?_) 65 _
  have := hok e he
  unfold EOk at this
  simp only [okE, allE, Bool.not_eq_true', Bool.or_eq_false_iff, Bool.and_eq_false_iff, beq_eq_false_iff_ne]
  omega
theorem swo_cheap : Go.Sort.SWO (Go.Proofs.ltOf cheapE) where
  irrefl := fun x => by simp [Go.Proofs.ltOf, cheapE_lt, ahead_irrefl]
  trans := fun x y z h1 h2 => by
    simp only [Go.Proofs.ltOf, decide_eq_true_eq, cheapE_lt] at *
    exact ahead_trans h1 h2
  ntrans := fun x y z h1 h2 => by
    simp only [Go.Proofs.ltOf, decide_eq_false_iff_not, cheapE_lt] at *
    rw [ahead_iff] at *
    omega
theorem swo_order : Go.Sort.SWO (Go.Proofs.ltOf orderE) where
  irrefl := fun x => by
    simp only [Go.Proofs.ltOf, decide_eq_false_iff_not, orderE_lt]
    exact ltE_irrefl
  trans := fun x y z h1 h2 => by
    simp only [Go.Proofs.ltOf, decide_eq_true_eq, orderE_lt] at *
    exact ltE_trans h1 h2
  ntrans := fun x y z h1 h2 => by
    simp only [Go.Proofs.ltOf, decide_eq_false_iff_not, orderE_lt] at *
    unfold ltE at *
    omega
theorem cheap_of {l ts : List Edge} (hv : edgesB none l = true) (hp : ts.Perm l) (hs : ts.Pairwise fun x y => Go.Proofs.ltOf cheapE y x = false) : Cheap l ts where
  ok := edgesB_all hv
  p := hp
  s := by
    have hn : ts.Nodup := hp.nodup_iff.2 (ltE_nodup (edgesB_sorted hv))
    refine (hs.and hn).imp (fun {x y} h => ?_)
    obtain ⟨h1, h2⟩ := h
    simp only [Go.Proofs.ltOf, decide_eq_false_iff_not, cheapE_lt] at h1
    cases h3 : ahead x y with
    | true => rfl
    | false =>
      exfalso
      apply h2
      cases x
      cases y
      simp only [ahead] at h1 h3
      simp only [Edge.mk.injEq]
      split at h1 <;> split at h3 <;> simp only [Bool.or_eq_true, Bool.and_eq_true, Bool.or_eq_false_iff, decide_eq_true_eq, decide_eq_false_iff_not, Bool.and_eq_false_iff] at h1 h3 <;> omega
theorem sorted_of {l ts us : List Edge} (hv : edgesB none l = true) (hp : ts.Perm l) (hu : us.Perm (ts.filter (A.inF l))) (hs : us.Pairwise fun x y => Go.Proofs.ltOf orderE y x = false) : us = l.filter (A.inF l) := by
  have hl := edgesB_sorted hv
  have hlf : (l.filter (A.inF l)).Pairwise ltE := hl.sublist List.filter_sublist
  have hpu : us.Perm (l.filter (A.inF l)) := hu.trans (hp.filter _)
  have hnu : us.Nodup := hpu.nodup_iff.2 (ltE_nodup hlf)
  refine List.Perm.eq_of_pairwise (le := ltE) (fun x y _ _ h1 h2 => (ltE_irrefl (ltE_trans h1 h2)).elim) ?_ hlf hpu
  have hmem : ∀ x ∈ us, x ∈ l := fun x hx => (List.mem_filter.1 (hpu.mem_iff.1 hx)).1
  have huniq : ∀ x ∈ l, ∀ y ∈ l, x.a = y.a → x.b = y.b → x = y := fun x hx y hy e1 e2 => Classical.byContradiction fun hne => by
    rcases List.getElem_of_mem hx with ⟨i, hi, rfl⟩
    rcases List.getElem_of_mem hy with ⟨j, hj, rfl⟩
    have hp := List.pairwise_iff_getElem.1 hl
    rcases Nat.lt_trichotomy i j with h | h | h
    · have := hp i j hi hj h; unfold ltE at this; omega
    · subst h; exact hne rfl
    · have := hp j i hj hi h; unfold ltE at this; omega
  have hs2 : us.Pairwise fun x y => Go.Proofs.ltOf orderE y x = false ∧ x ≠ y := hs.and hnu
  rw [List.pairwise_iff_getElem] at hs2 ⊢
  intro i j hi hj hij
  obtain ⟨h1, h2⟩ := hs2 i j hi hj hij
  simp only [Go.Proofs.ltOf, decide_eq_false_iff_not, orderE_lt] at h1
  have hne : ¬ (us[i].a = us[j].a ∧ us[i].b = us[j].b) := fun ⟨e1, e2⟩ => h2 (huniq _ (hmem _ (List.getElem_mem hi)) _ (hmem _ (List.getElem_mem hj)) e1 e2)
  unfold ltE at *
  omega

/- waymarkref39.Bridges -/
def ref39_Bridges_r5_T : Bool × List (List Nat × List Nat) := (true, [([], []), ([], []), ([], []), ([1, 2], [1, 2]), ([3], [3]), ([4], [4]), ([], []), ([], []), ([6, 7], [6, 7]), ([8], [8]), ([0, 5, 9], [0, 5, 9]), ([], []), ([11, 10, 10, 0, 1, 2, 3, 4, 5, 6, 7, 8, 9, 10, 11], [10, 11])])
def ref39_Bridges_r5_B : List Nat := [0, 0, 0, 6, 14, 30, 0, 0, 192, 448, 1023, 0, 4095]
theorem ref39_Bridges_r5_t : Go.Proofs.YtkgemkadebgeoaaW.PrintLast.rtab .any (Go.Proofs.YtkgemkadebgeoaaW.PrintLast.opsOf Try.f36 5) = ref39_Bridges_r5_T := by kernel_rfl
theorem ref39_Bridges_r5_b : Go.Proofs.YtkgemkadebgeoaaW.PrintLast.waitsOk ref39_Bridges_r5_T.2 ref39_Bridges_r5_B = true := by kernel_rfl
set_option maxRecDepth 100000 in
set_option maxHeartbeats 400000 in
theorem ref39_Bridges {l : List Edge} (hl : l.length ≤ 1000000 := by omega) (hok : ∀ e ∈ l, EOk e) : Triple Try.prog 36 [.sl 3 (l.map edgeC)] [] (Own 64 3 ((l.filter (brgE l)).map edgeC) []) := by
  refine triple_of Try.func36 rfl (by kernel_rfl) rfl (by simp) ?_
  refine aSeq ?_
  refine aReg ?_
  refine sp pMa ?_
  refine oNil ?_
  refine aSeq ?_
  refine aReg ?_
  refine sq ?_
  refine qLit (l := []) rfl rfl (by decide) us_56 ty_64 ze_64 rfl (by decide) (by decide) rfl rfl rfl (fun b6 => ?_)
  refine sp pMa ?_
  refine oNil ?_
  refine aSeq ?_
  refine aSeq ?_
  refine aReg ?_
  refine sp pMa ?_
  refine oNil ?_
  refine aBlock ?_
  refine loopF (α := Nat × List Edge × Option Nat × Nat) (kept := [(0, _)]) (fun (i, out, g, c) => i ≤ l.length ∧ out = (l.take i).filter (brgE l)) (fun (i, out, g, c) => [(4, .int i), (3, .v (slV g out.length c))]) (fun (i, out, g, c) => [.sl g c 64 3 (out.map edgeC)]) (fun (i, out, g, c) => l.length - i) (0, [], _, _) ?_ ⟨gInt rfl (by first | rfl | omega | simp), gLen rfl (by first | rfl | simp | (simp; omega)), rfl, trivial⟩ (by repeat constructor) ?_
  · skip
    exact ⟨by omega, rfl⟩
  · rintro ⟨i, out, g, c⟩ ⟨hi, ho⟩
    refine aSeq ?_
    refine aSeq ?_
    refine aReg ?_
    refine sp pM ?_
    refine sp pM ?_
    refine sp (by first | exact pLm sl_56 | exact pLs sl_56) ?_
    refine sp pB ?_
    refine oNil ?_
    refine aCondDec rfl (fun c10 => ?_) (fun c10 => ?_)
    · skip
      refine aSkip ?_
      refine aSeq ?_
      refine aBlock ?_
      refine aSeq ?_
      have hlen : out.length ≤ l.length := by rw [ho]; exact Nat.le_trans (List.length_filter_le _ _) (by rw [List.length_take]; omega)
      obtain ⟨x16, hx16⟩ : ∃ x, l[i]? = some x := ⟨_, List.getElem?_eq_getElem (by omega)⟩
      have hxk := hok x16 (List.mem_of_getElem? hx16)
      unfold EOk at hxk
      refine aDrawT ref39_Bridges_r5_t ref39_Bridges_r5_b [12] 13 #[false, false, false, false, false, false, false, false, false, false, false, false, false] (by kernel_rfl) rfl rfl (fun HT => ?_)
      refine dp HT 0 rfl pM ?_
      refine dp HT 1 rfl pM ?_
      refine dp HT 2 rfl pM ?_
      first | refine dp HT 3 rfl (pIx es_56) ?_ | (refine obtDN 14 15 rfl rfl (by omega) (fun x16 hx16 => ?_); refine dp HT 3 rfl (pIs es_56 hx16) ?_) | (refine obtD 14 15 rfl rfl (by omega) (by omega) (fun x16 hx16 => ?_); refine dp HT 3 rfl (pIs es_56 hx16) ?_) | refine dp HT 3 rfl (pIo es_56) ?_
      refine dp HT 4 rfl (pFs fd_64_0) ?_
      refine dr HT 5 rfl (rS1 ty_3) ?_
      refine dp HT 6 rfl pM ?_
      refine dp HT 7 rfl pM ?_
      first | refine dp HT 8 rfl (pIx es_56) ?_ | (refine obtDN 19 20 rfl rfl (by omega) (fun x21 hx21 => ?_); refine dp HT 8 rfl (pIs es_56 hx21) ?_) | (refine obtD 19 20 rfl rfl (by omega) (by omega) (fun x21 hx21 => ?_); refine dp HT 8 rfl (pIs es_56 hx21) ?_) | refine dp HT 8 rfl (pIo es_56) ?_
      refine dr HT 9 rfl (by first | exact rSW ty_64 rfl | exact rSA ty_64) ?_
      refine dGo ?_
      refine eTwoS (i := 10) (j := 11) #[true, true, true, true, true, true, true, true, true, true, true, false, false] #[true, true, true, true, true, true, true, true, true, true, false, true, false] rfl rfl (HT.two (by kernel_rfl)) (by decide) (by decide) ?_ ?_
      · skip
        refine stQ (wantN rfl) (fun t ht => by cases ht <;> decide) ?_
        refine ci rfl rfl rfl (ref39_Reached (by omega) hok) ?_
        refine undel (d := 23) rfl ?_
        refine e1 HT 11 rfl ?_
        refine qAlloc rfl rfl (by decide) ze_65 rfl (fun b5 => ?_)
        refine eLast ?_
        refine f1 HT 12 rfl ?_
        refine oStW rfl rfl rfl rfl (by repeat constructor) ty_65 ?_
        refine fE HT ?_
        clear HT
        refine aSeq ?_
        refine aReg ?_
        refine sp pM ?_
        refine sp pM ?_
        first | refine sp (pIx es_56) ?_ | (refine obtSN 24 25 rfl rfl (by omega) (fun x26 hx26 => ?_); refine sp (pIs es_56 hx26) ?_) | (refine obtS 24 25 rfl rfl (by omega) (by omega) (fun x26 hx26 => ?_); refine sp (pIs es_56 hx26) ?_) | refine sp (pIo es_56) ?_
        refine sp (pFs fd_64_1) ?_
        refine sr (rS1 ty_3) ?_
        refine sp (pIa ar_65) ?_
        refine sr (by first | exact rAr ty_4 | exact rArL ty_4 | exact rArR ty_4 (by first | rfl | exact arrF_len one_len)) ?_
        refine sp pNo ?_
        refine oNil ?_
        refine aCondNot rfl (fun c31 => ?_) (fun c31 => ?_)
        · skip
          refine aReg ?_
          refine sp pM ?_
          refine sp pM ?_
          refine sp pM ?_
          first | refine sp (pIx es_56) ?_ | (refine obtSN 33 34 rfl rfl (by omega) (fun x35 hx35 => ?_); refine sp (pIs es_56 hx35) ?_) | (refine obtS 33 34 rfl rfl (by omega) (by omega) (fun x35 hx35 => ?_); refine sp (pIs es_56 hx35) ?_) | refine sp (pIo es_56) ?_
          refine sr (by first | exact rSW ty_64 rfl | exact rSA ty_64) ?_
          refine sq ?_
          refine qLit (l := [_]) rfl rfl (by decide) us_56 ty_64 ze_64 rfl (by decide) (by decide) rfl rfl rfl (fun b37 => ?_)
          refine sa ?_
          refine oAppT [_] rfl rfl (by repeat constructor) (srcOwn rfl (by repeat constructor) rfl) el_56 sl_56 (fun g38 k38 => ?_)
          refine sp pMa ?_
          refine oNil ?_
          refine aReg ?_
          refine sp pM ?_
          refine sp pAd ?_
          refine sp pMa ?_
          refine oNil ?_
          refine ⟨(i + 1, _, _, _), ?_, by (try dsimp only); omega, ⟨gInt rfl (by first | rfl | omega | simp), gLen rfl (by first | rfl | simp | (simp; omega)), rfl, trivial⟩, _, (by repeat constructor)⟩
          refine ⟨by omega, ?_⟩
          first
            | (rw [filter_yes hx16 (by simp_all [brgE]), ← ho]; done)
            | (rw [filter_no hx16 (by simp_all [brgE]), ← ho]; done)
        · skip
          refine aSkip ?_
          refine aReg ?_
          refine sp pM ?_
          refine sp pAd ?_
          refine sp pMa ?_
          refine oNil ?_
          refine ⟨(i + 1, _, _, _), ?_, by (try dsimp only); omega, ⟨gInt rfl (by first | rfl | omega | simp), gLen rfl (by first | rfl | simp | (simp; omega)), rfl, trivial⟩, _, (by repeat constructor)⟩
          refine ⟨by omega, ?_⟩
          first
            | (rw [filter_yes hx16 (by simp_all [brgE]), ← ho]; done)
            | (rw [filter_no hx16 (by simp_all [brgE]), ← ho]; done)
      · skip
        refine stQ (wantN rfl) (fun t ht => by cases ht <;> decide) ?_
        refine qAlloc rfl rfl (by decide) ze_65 rfl (fun b5 => ?_)
        refine undel (d := 5) rfl ?_
        refine e1 HT 10 rfl ?_
        refine ci rfl rfl rfl (ref39_Reached (by omega) hok) ?_
        refine eLast ?_
        refine f1 HT 12 rfl ?_
        refine oStW rfl rfl rfl rfl (by repeat constructor) ty_65 ?_
        refine fE HT ?_
        clear HT
        refine aSeq ?_
        refine aReg ?_
        refine sp pM ?_
        refine sp pM ?_
        first | refine sp (pIx es_56) ?_ | (refine obtSN 24 25 rfl rfl (by omega) (fun x26 hx26 => ?_); refine sp (pIs es_56 hx26) ?_) | (refine obtS 24 25 rfl rfl (by omega) (by omega) (fun x26 hx26 => ?_); refine sp (pIs es_56 hx26) ?_) | refine sp (pIo es_56) ?_
        refine sp (pFs fd_64_1) ?_
        refine sr (rS1 ty_3) ?_
        refine sp (pIa ar_65) ?_
        refine sr (by first | exact rAr ty_4 | exact rArL ty_4 | exact rArR ty_4 (by first | rfl | exact arrF_len one_len)) ?_
        refine sp pNo ?_
        refine oNil ?_
        refine aCondNot rfl (fun c31 => ?_) (fun c31 => ?_)
        · skip
          refine aReg ?_
          refine sp pM ?_
          refine sp pM ?_
          refine sp pM ?_
          first | refine sp (pIx es_56) ?_ | (refine obtSN 33 34 rfl rfl (by omega) (fun x35 hx35 => ?_); refine sp (pIs es_56 hx35) ?_) | (refine obtS 33 34 rfl rfl (by omega) (by omega) (fun x35 hx35 => ?_); refine sp (pIs es_56 hx35) ?_) | refine sp (pIo es_56) ?_
          refine sr (by first | exact rSW ty_64 rfl | exact rSA ty_64) ?_
          refine sq ?_
          refine qLit (l := [_]) rfl rfl (by decide) us_56 ty_64 ze_64 rfl (by decide) (by decide) rfl rfl rfl (fun b37 => ?_)
          refine sa ?_
          refine oAppT [_] rfl rfl (by repeat constructor) (srcOwn rfl (by repeat constructor) rfl) el_56 sl_56 (fun g38 k38 => ?_)
          refine sp pMa ?_
          refine oNil ?_
          refine aReg ?_
          refine sp pM ?_
          refine sp pAd ?_
          refine sp pMa ?_
          refine oNil ?_
          refine ⟨(i + 1, _, _, _), ?_, by (try dsimp only); omega, ⟨gInt rfl (by first | rfl | omega | simp), gLen rfl (by first | rfl | simp | (simp; omega)), rfl, trivial⟩, _, (by repeat constructor)⟩
          refine ⟨by omega, ?_⟩
          first
            | (rw [filter_yes hx16 (by simp_all [brgE]), ← ho]; done)
            | (rw [filter_no hx16 (by simp_all [brgE]), ← ho]; done)
        · skip
          refine aSkip ?_
          refine aReg ?_
          refine sp pM ?_
          refine sp pAd ?_
          refine sp pMa ?_
          refine oNil ?_
          refine ⟨(i + 1, _, _, _), ?_, by (try dsimp only); omega, ⟨gInt rfl (by first | rfl | omega | simp), gLen rfl (by first | rfl | simp | (simp; omega)), rfl, trivial⟩, _, (by repeat constructor)⟩
          refine ⟨by omega, ?_⟩
          first
            | (rw [filter_yes hx16 (by simp_all [brgE]), ← ho]; done)
            | (rw [filter_no hx16 (by simp_all [brgE]), ← ho]; done)
    · skip
      refine aExit rfl ?_
      refine aSeq ?_
      refine aReg ?_
      refine sp pM ?_
      refine sp pMa ?_
      refine oNil ?_
      refine aRet ?_
      refine finOwn rfl ?_
      rw [ho, take_all (by omega)]

/- waymarkref40.Of -/
def ref40_Of_r9_T : Bool × List (List Nat × List Nat) := (true, [([], []), ([], []), ([0, 1], [0, 1]), ([2], [2]), ([], []), ([], []), ([4, 5], [4, 5]), ([6], [6]), ([3, 7], [3, 7])])
def ref40_Of_r9_B : List Nat := [0, 0, 3, 7, 0, 0, 48, 112, 255]
theorem ref40_Of_r9_t : Go.Proofs.YtkgemkadebgeoaaW.PrintLast.rtab .any (Go.Proofs.YtkgemkadebgeoaaW.PrintLast.opsOf Try.f33 9) = ref40_Of_r9_T := by kernel_rfl
theorem ref40_Of_r9_b : Go.Proofs.YtkgemkadebgeoaaW.PrintLast.waitsOk ref40_Of_r9_T.2 ref40_Of_r9_B = true := by kernel_rfl
set_option maxRecDepth 100000 in
set_option maxHeartbeats 1000000 in
theorem ref40_Of {l : List Edge} (hl : l.length ≤ 1000000 := by omega) (hok : ∀ e ∈ l, EOk e) : Triple Try.prog 33 [.sl 3 (l.map edgeC)] [] (Own 64 3 ((l.filter (A.inF l)).map edgeC) []) := by
  refine triple_of Try.func33 rfl (by kernel_rfl) rfl (by simp) ?_
  refine aSeq ?_
  refine aReg ?_
  refine sp pMa ?_
  refine oNil ?_
  refine aSeq ?_
  refine aReg ?_
  refine sq ?_
  refine qLit (l := []) rfl rfl (by decide) us_56 ty_64 ze_64 rfl (by decide) (by decide) rfl rfl rfl (fun b8 => ?_)
  refine sp pMa ?_
  refine oNil ?_
  refine aSeq ?_
  refine aSeq ?_
  refine aReg ?_
  refine sp pMa ?_
  refine oNil ?_
  refine aBlock ?_
  refine loopF (α := Nat × List Edge × Option Nat × Nat) (kept := [(0, _)]) (fun (i, out, g, c) => i ≤ l.length ∧ out = (l.take i).filter (A.inF l)) (fun (i, out, g, c) => [(4, .int i), (3, .v (slV g out.length c))]) (fun (i, out, g, c) => [.sl g c 64 3 (out.map edgeC)]) (fun (i, out, g, c) => l.length - i) (0, [], _, _) ?_ ⟨gInt rfl (by first | rfl | omega | simp), gLen rfl (by first | rfl | simp | (simp; omega)), rfl, trivial⟩ (by repeat constructor) ?_
  · skip
    exact ⟨by omega, rfl⟩
  · rintro ⟨i, out, g, c⟩ ⟨hi, ho⟩
    refine aSeq ?_
    refine aSeq ?_
    refine aReg ?_
    refine sp pM ?_
    refine sp pM ?_
    refine sp (by first | exact pLm sl_56 | exact pLs sl_56) ?_
    refine sp pB ?_
    refine oNil ?_
    refine aCondDec rfl (fun c12 => ?_) (fun c12 => ?_)
    · skip
      refine aSkip ?_
      refine aSeq ?_
      refine aBlock ?_
      refine aSeq ?_
      obtain ⟨x, hx⟩ : ∃ x, l[i]? = some x := ⟨_, List.getElem?_eq_getElem (by omega)⟩
      have hxk := hok x (List.mem_of_getElem? hx)
      unfold EOk at hxk
      have hlen : out.length ≤ l.length := by rw [ho]; exact Nat.le_trans (List.length_filter_le _ _) (by rw [List.length_take]; omega)
      refine aReg ?_
      refine sq ?_
      refine qLit (l := []) rfl rfl (by decide) us_56 ty_64 ze_64 rfl (by decide) (by decide) rfl rfl rfl (fun b15 => ?_)
      refine sp pMa ?_
      refine oNil ?_
      refine aSeq ?_
      refine aSeq ?_
      refine aReg ?_
      refine sp pMa ?_
      refine oNil ?_
      refine aBlock ?_
      refine loopF (α := Nat × List Edge × Option Nat × Nat) (kept := [(0, _), (3, _), (4, _)]) (fun (k, less, g2, c2) => k ≤ l.length ∧ less = (l.take k).filter (fun y => ahead y x)) (fun (k, less, g2, c2) => [(6, .int k), (5, .v (slV g2 less.length c2))]) (fun (k, less, g2, c2) => [.sl g2 c2 64 3 (less.map edgeC)]) (fun (k, less, g2, c2) => l.length - k) (0, [], _, _) ?_ ⟨gInt rfl (by first | rfl | omega | simp), gLen rfl (by first | rfl | simp | (simp; omega)), rfl, rfl, rfl, trivial⟩ (by repeat constructor) ?_
      · skip
        exact ⟨by omega, rfl⟩
      · rintro ⟨k, less, g2, c2⟩ ⟨hk, hs⟩
        refine aSeq ?_
        refine aSeq ?_
        refine aReg ?_
        refine sp pM ?_
        refine sp pM ?_
        refine sp (by first | exact pLm sl_56 | exact pLs sl_56) ?_
        refine sp pB ?_
        refine oNil ?_
        refine aCondDec rfl (fun c19 => ?_) (fun c19 => ?_)
        · skip
          refine aSkip ?_
          refine aSeq ?_
          refine aBlock ?_
          refine aSeq ?_
          refine aDrawT ref40_Of_r9_t ref40_Of_r9_b [] 9 #[false, false, false, false, false, false, false, false, false] (by kernel_rfl) rfl rfl (fun HT => ?_)
          refine dp HT 0 rfl pM ?_
          refine dp HT 1 rfl pM ?_
          first | refine dp HT 2 rfl (pIx es_56) ?_ | (refine obtDN 22 23 rfl rfl (by omega) (fun x24 hx24 => ?_); refine dp HT 2 rfl (pIs es_56 hx24) ?_) | (refine obtD 22 23 rfl rfl (by omega) (by omega) (fun x24 hx24 => ?_); refine dp HT 2 rfl (pIs es_56 hx24) ?_) | refine dp HT 2 rfl (pIo es_56) ?_
          refine dr HT 3 rfl (by first | exact rSW ty_64 rfl | exact rSA ty_64) ?_
          refine dp HT 4 rfl pM ?_
          refine dp HT 5 rfl pM ?_
          first | refine dp HT 6 rfl (pIx es_56) ?_ | (refine obtDN 26 27 rfl rfl (by omega) (fun x28 hx28 => ?_); refine dp HT 6 rfl (pIs es_56 hx28) ?_) | (refine obtD 26 27 rfl rfl (by omega) (by omega) (fun x28 hx28 => ?_); refine dp HT 6 rfl (pIs es_56 hx28) ?_) | refine dp HT 6 rfl (pIo es_56) ?_
          refine dr HT 7 rfl (by first | exact rSW ty_64 rfl | exact rSA ty_64) ?_
          refine dGo ?_
          refine e1 HT 8 rfl ?_
          refine cv rfl rfl rfl (lents_refl _) ref40_ahead ?_
          refine eE HT ?_
          clear HT
          refine aCond rfl (fun c30 => ?_) (fun c30 => ?_)
          · skip
            have hlen2 : less.length ≤ l.length := by rw [hs]; exact Nat.le_trans (List.length_filter_le _ _) (by rw [List.length_take]; omega)
            refine aReg ?_
            refine sp pM ?_
            refine sp pM ?_
            refine sp pM ?_
            first | refine sp (pIx es_56) ?_ | (refine obtSN 32 33 rfl rfl (by omega) (fun x34 hx34 => ?_); refine sp (pIs es_56 hx34) ?_) | (refine obtS 32 33 rfl rfl (by omega) (by omega) (fun x34 hx34 => ?_); refine sp (pIs es_56 hx34) ?_) | refine sp (pIo es_56) ?_
            refine sr (by first | exact rSW ty_64 rfl | exact rSA ty_64) ?_
            refine sq ?_
            refine qLit (l := [_]) rfl rfl (by decide) us_56 ty_64 ze_64 rfl (by decide) (by decide) rfl rfl rfl (fun b36 => ?_)
            refine sa ?_
            refine oAppT [_] rfl rfl (by repeat constructor) (srcOwn rfl (by repeat constructor) rfl) el_56 sl_56 (fun g37 k37 => ?_)
            refine sp pMa ?_
            refine oNil ?_
            refine aReg ?_
            refine sp pM ?_
            refine sp pAd ?_
            refine sp pMa ?_
            refine oNil ?_
            refine ⟨(k + 1, _, _, _), ?_, by (try dsimp only); omega, ⟨gInt rfl (by first | rfl | omega | simp), gLen rfl (by first | rfl | simp | (simp; omega)), rfl, rfl, rfl, trivial⟩, _, (by repeat constructor)⟩
            refine ⟨by omega, ?_⟩
            first
              | (rw [filter_yes hx24 (by simp_all), ← hs]; done)
              | (rw [filter_no hx24 (by simp_all), ← hs]; done)
          · skip
            refine aSkip ?_
            refine aReg ?_
            refine sp pM ?_
            refine sp pAd ?_
            refine sp pMa ?_
            refine oNil ?_
            refine ⟨(k + 1, _, _, _), ?_, by (try dsimp only); omega, ⟨gInt rfl (by first | rfl | omega | simp), gLen rfl (by first | rfl | simp | (simp; omega)), rfl, rfl, rfl, trivial⟩, _, (by repeat constructor)⟩
            refine ⟨by omega, ?_⟩
            first
              | (rw [filter_yes hx24 (by simp_all), ← hs]; done)
              | (rw [filter_no hx24 (by simp_all), ← hs]; done)
        · skip
          refine aExit rfl ?_
          refine aSeq ?_
          obtain rfl : k = l.length := by omega
          rw [take_all (by omega)] at hs
          have hlen2 : less.length ≤ l.length := by rw [hs]; exact List.length_filter_le _ _
          refine aWeak (weak_settle (k := 5) rfl (by repeat constructor) (by first | rfl | (simp; done) | (simp; omega) | (simp_all; done))) ?_
          refine aReg ?_
          refine sp pM ?_
          refine sp pM ?_
          refine sp pM ?_
          first | refine sp (pIx es_56) ?_ | (refine obtSN 39 40 rfl rfl (by omega) (fun x41 hx41 => ?_); refine sp (pIs es_56 hx41) ?_) | (refine obtS 39 40 rfl rfl (by omega) (by omega) (fun x41 hx41 => ?_); refine sp (pIs es_56 hx41) ?_) | refine sp (pIo es_56) ?_
          refine sp (pFs fd_64_0) ?_
          refine sr (rS1 ty_3) ?_
          refine sp (pBuild rfl st_64 ze_64 rfl rfl rfl rfl) ?_
          refine sq ?_
          refine ci rfl rfl rfl (ref39_Reached (w := ⟨0, 0, 0⟩) (by omega) (fun e he => hok e (by rw [hs] at he; exact (List.mem_filter.1 he).1))) ?_
          refine sq ?_
          refine qAlloc rfl rfl (by decide) ze_65 rfl (fun b7 => ?_)
          refine sa ?_
          refine oStW rfl rfl rfl rfl (by repeat constructor) ty_65 ?_
          refine oNil ?_
          refine aSeq ?_
          have hr0 := reach0 (l := less) (n := x.a) (fun e he => hok e (by rw [hs] at he; exact (List.mem_filter.1 he).1)) (by omega)
          rw [hr0]
          refine aReg ?_
          refine sp pM ?_
          refine sp pM ?_
          first | refine sp (pIx es_56) ?_ | (refine obtSN 46 47 rfl rfl (by omega) (fun x48 hx48 => ?_); refine sp (pIs es_56 hx48) ?_) | (refine obtS 46 47 rfl rfl (by omega) (by omega) (fun x48 hx48 => ?_); refine sp (pIs es_56 hx48) ?_) | refine sp (pIo es_56) ?_
          refine sp (pFs fd_64_1) ?_
          refine sr (rS1 ty_3) ?_
          refine sp (pIa ar_65) ?_
          refine sr (by first | exact rAr ty_4 | exact rArL ty_4 | exact rArR ty_4 (by first | rfl | exact arrF_len one_len)) ?_
          refine sp pNo ?_
          refine oNil ?_
          refine aCondNot rfl (fun c53 => ?_) (fun c53 => ?_)
          · skip
            refine aReg ?_
            refine sp pM ?_
            refine sp pM ?_
            refine sp pM ?_
            first | refine sp (pIx es_56) ?_ | (refine obtSN 55 56 rfl rfl (by omega) (fun x57 hx57 => ?_); refine sp (pIs es_56 hx57) ?_) | (refine obtS 55 56 rfl rfl (by omega) (by omega) (fun x57 hx57 => ?_); refine sp (pIs es_56 hx57) ?_) | refine sp (pIo es_56) ?_
            refine sr (by first | exact rSW ty_64 rfl | exact rSA ty_64) ?_
            refine sq ?_
            refine qLit (l := [_]) rfl rfl (by decide) us_56 ty_64 ze_64 rfl (by decide) (by decide) rfl rfl rfl (fun b59 => ?_)
            refine sa ?_
            refine oAppT [_] rfl rfl (by repeat constructor) (srcOwn rfl (by repeat constructor) rfl) el_56 sl_56 (fun g60 k60 => ?_)
            refine sp pMa ?_
            refine oNil ?_
            refine aReg ?_
            refine sp pM ?_
            refine sp pAd ?_
            refine sp pMa ?_
            refine oNil ?_
            refine ⟨(i + 1, _, _, _), ?_, by (try dsimp only); omega, ⟨gInt rfl (by first | rfl | omega | simp), gLen rfl (by first | rfl | simp | (simp; omega)), rfl, trivial⟩, _, (by repeat constructor)⟩
            refine ⟨by omega, ?_⟩
            first
              | (rw [filter_yes hx (by simp_all [A.inF]), ← ho]; done)
              | (rw [filter_no hx (by simp_all [A.inF]), ← ho]; done)
          · skip
            refine aSkip ?_
            refine aReg ?_
            refine sp pM ?_
            refine sp pAd ?_
            refine sp pMa ?_
            refine oNil ?_
            refine ⟨(i + 1, _, _, _), ?_, by (try dsimp only); omega, ⟨gInt rfl (by first | rfl | omega | simp), gLen rfl (by first | rfl | simp | (simp; omega)), rfl, trivial⟩, _, (by repeat constructor)⟩
            refine ⟨by omega, ?_⟩
            first
              | (rw [filter_yes hx (by simp_all [A.inF]), ← ho]; done)
              | (rw [filter_no hx (by simp_all [A.inF]), ← ho]; done)
    · skip
      refine aExit rfl ?_
      refine aSeq ?_
      refine aReg ?_
      refine sp pM ?_
      refine sp pMa ?_
      refine oNil ?_
      refine aRet ?_
      refine finOwn rfl ?_
      rw [ho, take_all (by omega)]

end A
end Go.Proofs.Ytkgemkadebgeoaa
