/- What functions of the program compute: law03g -/
import Derived.Test.YtkgemkadebgeoaaBlaw03f
import Derived.Test.YtkgemkadebgeoaaProg
import Derived.KernelRfl
set_option linter.unusedVariables false
set_option linter.unusedSimpArgs false
namespace Go.Proofs.Ytkgemkadebgeoaa
namespace A

theorem st_89 : structPlaces Try.prog 89 = some [(0, 1), (1, 1), (2, 1), (3, 1), (4, 1)] := by kernel_rfl
theorem us_74 : Try.prog.underlying 74 = some (.slice 89) := by kernel_rfl
theorem ze_89 : zeroOf Try.prog 89 = some (.agg #[.int .i64 0, .int .i64 0, .slice none 0 0, .bool false, .slice none 0 0]) := by kernel_rfl
def cnt (w : DW) (i : Nat) : Nat := ((List.range i).filter fun i => 0 < (w.waits.getD i []).length).length
theorem cnt_yes {w : DW} {i : Nat} (h : 0 < (w.waits.getD i []).length) : cnt w (i + 1) = cnt w i + 1 := by
  unfold cnt
  rw [List.range_succ, List.filter_append, List.length_append, List.filter_cons_of_pos (by simpa using h)]
  rfl
theorem cnt_no {w : DW} {i : Nat} (h : (w.waits.getD i []).length = 0) : cnt w (i + 1) = cnt w i := by
  unfold cnt
  rw [List.range_succ, List.filter_append, List.length_append, List.filter_cons_of_neg (by rw [h]; simp)]
  rfl
theorem cnt_le (w : DW) (i : Nat) : cnt w i ≤ i := by
  have := List.length_filter_le (fun i => decide (0 < (w.waits.getD i []).length)) (List.range i)
  rw [List.length_range] at this
  exact this
theorem waiting_at {w : DW} {i : Nat} (hi : i < w.waits.length) (h : 0 < (w.waits.getD i []).length) : ∃ rest, w.waiting = (List.range i).filter (fun i => 0 < (w.waits.getD i []).length) ++ i :: rest ∧ ∀ j ∈ rest, j ≠ i := by
  have e : List.range w.waits.length = List.range i ++ i :: (List.range w.waits.length).drop (i + 1) := by
    have e1 : (List.range w.waits.length).drop i = i :: (List.range w.waits.length).drop (i + 1) := by
      rw [List.drop_eq_getElem_cons (by simpa using hi)]
      simp
    rw [← e1, ← (show (List.range w.waits.length).take i = List.range i by rw [List.take_range, Nat.min_eq_left (by omega)]), List.take_append_drop]
  refine ⟨((List.range w.waits.length).drop (i + 1)).filter (fun i => 0 < (w.waits.getD i []).length), ?_, fun j hj => ?_⟩
  · unfold DW.waiting
    conv => lhs; rw [e]
    rw [List.filter_append, List.filter_cons, if_pos (by simpa using h)]
  · have hj := (List.mem_filter.1 hj).1
    obtain ⟨k, hk⟩ := List.mem_iff_getElem?.1 hj
    rw [List.getElem?_drop] at hk
    have := (List.getElem?_eq_some_iff.1 hk)
    obtain ⟨h1, h2⟩ := this
    simp at h2
    omega
theorem crash_none {w : DW} {i : Nat} {l : List DTear} (h : (w.waits.getD i []).length = 0) : (w.crash l).safe[i]? = w.safe[i]? := by
  show ((w.waiting.zip l).foldl (crash1 w) w.safe)[i]? = _
  refine crash_keeps _ _ (fun q hq e => ?_)
  have hm := (List.of_mem_zip hq).1
  rw [DW.waiting, List.mem_filter, e, h] at hm
  simp at hm
theorem foldl_crash_len {w : DW} : ∀ (ps : List (Nat × DTear)) (s : List BS), (ps.foldl (crash1 w) s).length = s.length
  | [], _ => rfl
  | p :: ps, s => by rw [List.foldl_cons, foldl_crash_len ps, crash1_len]
theorem zip_at {α β : Type} {ps cs : List α} {i : α} {l : List β} : (ps ++ i :: cs).zip l = ps.zip l ++ (match l[ps.length]? with | some t => (i, t) :: cs.zip (l.drop (ps.length + 1)) | none => []) := by
  induction ps generalizing l with
  | nil => cases l <;> rfl
  | cons a ps ih =>
    cases l with
    | nil => rfl
    | cons b l => simp [ih]
theorem crash_some {w : DW} {i : Nat} {l : List DTear} (hw : w.waits.length = w.safe.length) (hi : i < w.waits.length) (h : 0 < (w.waits.getD i []).length) :
    (w.crash l).safe.getD i [] = match l[cnt w i]? with | some t => (if t.kind = 1 then w.waits.getD i [] else if t.kind = 2 then torn t.b (w.safe.getD i []) else w.safe.getD i []) | none => w.safe.getD i [] := by
  obtain ⟨rest, h1, h2⟩ := waiting_at hi h
  have hlt : i < w.safe.length := by omega
  have key : (w.crash l).safe = (w.waiting.zip l).foldl (crash1 w) w.safe := rfl
  rw [key, h1, zip_at, List.foldl_append]
  have hpre : ∀ q ∈ ((List.range i).filter fun i => 0 < (w.waits.getD i []).length).zip l, q.1 ≠ i := fun q hq e => by
    have := List.mem_range.1 (List.mem_filter.1 (List.of_mem_zip hq).1).1
    omega
  have hs := crash_keeps (w := w) (k := i) _ w.safe hpre
  have hsl := foldl_crash_len (w := w) (((List.range i).filter fun i => 0 < (w.waits.getD i []).length).zip l) w.safe
  generalize (((List.range i).filter fun i => 0 < (w.waits.getD i []).length).zip l).foldl (crash1 w) w.safe = s at hs hsl
  show _ = match l[((List.range i).filter fun i => 0 < (w.waits.getD i []).length).length]? with | some t => _ | none => _
  cases ht : l[((List.range i).filter fun i => 0 < (w.waits.getD i []).length).length]? with
  | none => simp only [List.foldl_nil, List.getD, hs]
  | some t =>
    simp only [List.foldl_cons]
    rw [List.getD, crash_keeps _ _ (fun q hq e => h2 q.1 (List.of_mem_zip hq).1 e)]
    unfold crash1
    dsimp only
    split
    · rw [List.getElem?_set_self (by omega)]; rfl
    · split
      · rw [List.getElem?_set_self (by omega)]; rfl
      · rw [hs]; rfl
theorem crash_get {w : DW} {l : List DTear} (i : Nat) (hi : i < w.safe.length) : (w.crash l).get i = (w.crash l).safe.getD i [] := by
  have : (w.crash l).waits.getD i [] = [] := by
    show (List.replicate w.safe.length ([] : BS)).getD i [] = []
    rw [List.getD, List.getElem?_replicate, if_pos hi]; rfl
  rw [DW.get, this, if_neg (by simp)]
theorem crash_waiting (w : DW) (l : List DTear) : (w.crash l).waiting = [] := by
  rw [DW.waiting, List.filter_eq_nil_iff]
  intro i hi
  have : (w.crash l).waits.getD i [] = [] := by
    show (List.replicate w.safe.length ([] : BS)).getD i [] = []
    rw [List.getD, List.getElem?_replicate]
    split <;> rfl
  rw [this]
  simp
theorem ref03_Torn_s (b o : BS) (hb : b.length ≤ 1000000) (ho : o.length ≤ 1000000) : Triple Try.prog 53 [.sl 1 (b.map by1), .sl 1 (o.map by1)] [] (Is (.sl 1 ((torn b o).map by1)) []) :=
  ((ref03_Torn b o hb ho).mono (Q' := Own 5 1 ((torn b o).map by1) []) fun q h' ⟨g, c, hq, hh⟩ => ⟨g, c, by simp [hq], hh⟩).settle

/- waymarklaw03.DiskOnes -/
def law03_DiskOnes_r10_T : Bool × List (List Nat × List Nat) := (true, [([], []), ([], []), ([], []), ([], []), ([2, 3], [2, 3]), ([4], [4]), ([0, 1, 5], [0, 1, 5]), ([6], [6]), ([7], [7]), ([7], [7]), ([8, 6, 0, 1, 2, 3, 4, 5, 6, 7, 8], [8])])
def law03_DiskOnes_r10_B : List Nat := [0, 0, 0, 0, 12, 28, 63, 127, 255, 255, 511]
theorem law03_DiskOnes_r10_t : Go.Proofs.YtkgemkadebgeoaaW.PrintLast.rtab .any (Go.Proofs.YtkgemkadebgeoaaW.PrintLast.opsOf Try.f11 10) = law03_DiskOnes_r10_T := by kernel_rfl
theorem law03_DiskOnes_r10_b : Go.Proofs.YtkgemkadebgeoaaW.PrintLast.waitsOk law03_DiskOnes_r10_T.2 law03_DiskOnes_r10_B = true := by kernel_rfl
def law03_DiskOnes_r22_T : Bool × List (List Nat × List Nat) := (true, [([], []), ([0], [0]), ([1], [1]), ([2], [2]), ([2], [2]), ([2], [2]), ([4, 5, 2], [2, 4, 5]), ([6, 2], [2, 6]), ([7, 2], [2, 7]), ([2], [2]), ([9, 2], [2, 9]), ([2], [2]), ([10, 11, 2], [2, 10, 11]), ([12, 2], [2, 12]), ([8, 13, 2, 2], [2, 8, 13]), ([3, 14, 14, 2], [2, 3, 14]), ([2, 15], [2, 15]), ([16, 15, 0, 1, 2, 3, 4, 5, 6, 7, 8, 9, 10, 11, 12, 13, 14, 15, 16], [16])])
def law03_DiskOnes_r22_B : List Nat := [0, 1, 3, 7, 7, 7, 55, 119, 247, 7, 519, 7, 3591, 7687, 16375, 32767, 65535, 131071]
theorem law03_DiskOnes_r22_t : Go.Proofs.YtkgemkadebgeoaaW.PrintLast.rtab .any (Go.Proofs.YtkgemkadebgeoaaW.PrintLast.opsOf Try.f11 22) = law03_DiskOnes_r22_T := by kernel_rfl
theorem law03_DiskOnes_r22_b : Go.Proofs.YtkgemkadebgeoaaW.PrintLast.waitsOk law03_DiskOnes_r22_T.2 law03_DiskOnes_r22_B = true := by kernel_rfl
set_option maxRecDepth 100000 in
set_option maxHeartbeats 2000000 in
theorem law03_DiskOnes (l : List DAct) (tr : List DTear) (hl : l.length ≤ 9223372036854775807) (hla : ∀ a ∈ l, a.n ≤ 9223372036854775807) : Triple Try.prog 11 [.sl 5 (l.map dactC), .sl 2 (tr.map tearC)] [] (Is (.v (.bool true)) []) := by
  refine triple_of Try.func11 rfl (by kernel_rfl) rfl (by simp) ?_
  refine aSeq ?_
  refine aReg ?_
  refine sp pMa ?_
  refine oNil ?_
  refine aSeq ?_
  refine aSeq ?_
  refine aReg ?_
  refine sp pM ?_
  refine sq ?_
  refine qCallV rfl rfl (by decide) rfl rfl (lents_refl _) (law03_Light l hl) ?_
  refine sp pNo ?_
  refine sp pM ?_
  refine oSplitNot 17 rfl (fun c17 => ?_) (fun c17 => ?_)
  · skip
    refine gf ?_
    refine gf ?_
    refine gf ?_
    refine gf ?_
    refine gf ?_
    refine sp pK ?_
    refine oNil ?_
    refine aCondT rfl ?_
    refine aSeq ?_
    refine aReg ?_
    refine sq ?_
    refine qCallV rfl rfl (by decide) rfl rfl (lents_refl _) law03_awake ?_
    refine sp pMa ?_
    refine oNil ?_
    refine aRet ?_
    refine finIs rfl ?_
    rfl
  · skip
    refine gp pM ?_
    refine gp (pBuild rfl st_89 ze_89 rfl rfl rfl rfl) ?_
    refine ga ?_
    refine (qLit (l := [_]) rfl rfl (by decide) us_74 ty_89 ze_89 rfl (by decide) (by decide) rfl rfl rfl (fun b20 => ?_)).op
    refine oWeak (weak_cast1 (y' := dactC ⟨0, 0, [], false, tr⟩) .hd rfl (.cons .refl (.cons .refl (.cons cast_nil (.cons .refl (.cons .refl .nil)))))) ?_
    refine ga ?_
    refine (cv rfl rfl rfl (by repeat (first | exact .nil | refine .cons (.sl (by repeat (first | exact List.mem_cons_self | apply List.mem_cons_of_mem)) (by first | rfl | simp)) ?_ | refine .cons (.same _) ?_)) (law03_Light [⟨0, 0, [], false, tr⟩] (by simp)) ?_).op
    refine gp pNo ?_
    refine sp pK ?_
    refine oNil ?_
    refine aCondNot rfl (fun c23 => ?_) (fun c23 => ?_)
    · skip
      refine aSeq ?_
      refine aReg ?_
      refine sq ?_
      refine qCallV rfl rfl (by decide) rfl rfl (lents_refl _) law03_awake ?_
      refine sp pMa ?_
      refine oNil ?_
      refine aRet ?_
      refine finIs rfl ?_
      rfl
    · skip
      refine aSkip ?_
      refine aSeq ?_
      have hok : lightB l = true := by simp_all
      have hokt : lightB [⟨0, 0, [], false, tr⟩] = true := by simp_all
      have hll := light_len hok
      have htr := actOk_b (light_at hokt (i := 0) rfl)
      refine aReg ?_
      refine sa ?_
      refine aCall rfl rfl (by decide) rfl rfl .nil (disk_New 6 (by decide) (by decide)) ?_
      rintro _ _ ⟨db, bs, bw, rfl, rfl⟩
      refine sp pM ?_
      refine sp pX ?_
      refine sp pX ?_
      refine sp pMa ?_
      refine sp pMa ?_
      refine oNil ?_
      refine aSeq ?_
      refine aSeq ?_
      refine aReg ?_
      refine sp pM ?_
      refine sp (pBin rfl rfl rfl rfl (rfl : _ = Value.bool false)) ?_
      refine sp pM ?_
      refine gp pM ?_
      refine gp (by first | exact pPtrNil rfl (.inl rfl) rfl pt_78 rfl (rfl : _ = false) | exact pSpNil rfl (.inl rfl) rfl pt_78 (rfl : _ = false)) ?_
      refine sp pK ?_
      refine oNil ?_
      refine aCondF rfl ?_
      refine aSkip ?_
      refine aSeq ?_
      refine aReg ?_
      refine sq ?_
      refine ci rfl rfl rfl (ref03_New 6 (by decide) (by decide)) ?_
      refine sq ?_
      refine qAlloc rfl rfl (by decide) ze_83 rfl (fun b7 => ?_)
      refine sa ?_
      refine oStB rfl rfl rfl rfl (by repeat constructor) ty_83 rfl (Nat.le_of_ble_eq_true rfl) rfl ?_
      refine oNil ?_
      refine aSeq ?_
      refine aSeq ?_
      refine aReg ?_
      refine sp pMa ?_
      refine oNil ?_
      refine aBlock ?_
      refine loopF (α := Nat × List (Int × BS) × List (Int × BS) × DW) (kept := [(0, _), (1, _), (5, _), (7, _)]) (fun (i, S, W, w) => i ≤ l.length ∧ Rel 6 S W w ∧ Fit w) (fun (i, S, W, w) => [(8, .int i)]) (fun (i, S, W, w) => .box b7 (dwC w) :: [.box db [.int 6, .v (.map (some bs)), .v (.map (some bw)), .int w.armed, .v (.bool w.dead)], .map bs (kvA S), .map bw (kvA W)]) (fun (i, S, W, w) => l.length - i) (0, [], [], DW.new 6) ?_ ⟨gInt rfl (by first | rfl | omega | simp), rfl, rfl, rfl, rfl, trivial⟩ (by repeat constructor) ?_
      · skip
        exact ⟨Nat.zero_le _, rel_new (by decide) (by decide), fit_new (by decide) (by decide)⟩
      · rintro ⟨i, S, W, w⟩ ⟨hi, r, f⟩
        refine aSeq ?_
        refine aSeq ?_
        refine aReg ?_
        refine sp pM ?_
        refine sp pM ?_
        refine sp (by first | exact pLm sl_74 | exact pLs sl_74) ?_
        refine sp pB ?_
        refine oNil ?_
        refine aCondDec rfl (fun c39 => ?_) (fun c39 => ?_)
        · skip
          refine aSkip ?_
          refine aSeq ?_
          refine aBlock ?_
          obtain ⟨a, hai⟩ : ∃ a, l[i]? = some a := ⟨_, List.getElem?_eq_getElem (by omega)⟩
          refine aDrawS (h1 := [.box b7 _]) law03_DiskOnes_r10_t law03_DiskOnes_r10_b [10] 11 #[false, false, false, false, false, false, false, false, false, false, false] (by kernel_rfl) rfl rfl (by repeat constructor) (fun HT => ?_)
          refine ep HT 0 rfl pM ?_
          refine er HT 1 rfl (by first | exact rBW ty_83 | exact rBA ty_83) ?_
          refine ep HT 2 rfl pM ?_
          refine ep HT 3 rfl pM ?_
          first | refine ep HT 4 rfl (pIx es_74) ?_ | (refine obtEN 45 46 rfl rfl (by omega) (fun x47 hx47 => ?_); refine ep HT 4 rfl (pIs es_74 hx47) ?_) | (refine obtE 45 46 rfl rfl (by omega) (by omega) (fun x47 hx47 => ?_); refine ep HT 4 rfl (pIs es_74 hx47) ?_) | refine ep HT 4 rfl (pIo es_74) ?_
          refine er HT 5 rfl (by first | exact rSW ty_89 rfl | exact rSA ty_89) ?_
          refine eOneS (i := 6) #[true, true, true, true, true, true, true, false, false, false, false] rfl (HT.one (by kernel_rfl)) (by decide) ?_
          · skip
            refine stA (hx := [.box db [.int 6, .v (.map (some bs)), .v (.map (some bw)), .int w.armed, .v (.bool w.dead)], .map bs (kvA S), .map bw (kvA W)]) (wantN rfl) (fun t ht => by cases ht <;> decide) (.cons (by repeat constructor) (.cons (by repeat constructor) (.cons (by repeat constructor) .nil))) (by repeat constructor) ?_
            refine aCall rfl rfl (by decide) rfl rfl tk_refl (law03_Do db bs bw 6 S W w w r f a (light_at hok hai) (hla a (List.mem_of_getElem? hai))) ?_
            rintro _ _ ⟨rfl, S', W', r', rfl⟩
            refine undel (d := 49) rfl ?_
            dsimp only [List.cons_append, List.nil_append]
            refine ef HT 7 rfl pM ?_
            refine ef HT 8 rfl pX ?_
            refine ef HT 9 rfl pX ?_
            refine eLast ?_
            refine f1 HT 10 rfl ?_
            refine oStB rfl rfl rfl rfl (by repeat constructor) ty_83 rfl (Nat.le_of_ble_eq_true rfl) rfl ?_
            refine fE HT ?_
            clear HT
            refine aReg ?_
            refine sp pM ?_
            refine sp pAd ?_
            refine sp pMa ?_
            refine oNil ?_
            refine ⟨(i + 1, S', W', (w.act1 a).1), ?_, by (try dsimp only); omega, ⟨gInt rfl (by first | rfl | omega | simp), rfl, rfl, rfl, rfl, trivial⟩, _, (by repeat constructor)⟩
            exact ⟨by omega, r', f.act1 a (hla a (List.mem_of_getElem? hai))⟩
        · skip
          refine aExit rfl ?_
          refine aSeq ?_
          refine aReg ?_
          refine sp pM ?_
          refine sp pM ?_
          refine sa ?_
          refine aCall rfl rfl (by decide) rfl rfl (.cons (by repeat constructor) (.cons (by repeat constructor) (.cons (by repeat constructor) .nil))) (disk_Crash db bs bw 6 S W w r tr) ?_
          rintro _ _ ⟨rfl, S2, r2, rfl⟩
          refine oNil ?_
          refine aSeq ?_
          refine aReg ?_
          refine sp pMa ?_
          refine oNil ?_
          refine aSeq ?_
          refine aSeq ?_
          refine aReg ?_
          refine sp pMa ?_
          refine oNil ?_
          refine aBlock ?_
          refine loopF (α := Nat) (kept := [(1, _), (5, _), (7, _)]) (fun i => i ≤ 6) (fun i => [(9, .int (cnt w i)), (10, .int i)]) (fun i => []) (fun i => 6 - i) 0 ?_ ⟨gInt rfl (by first | rfl | omega | simp), gInt rfl (by first | rfl | omega | simp), rfl, rfl, rfl, trivial⟩ (by repeat constructor) ?_
          · skip
            omega
          · rintro i hi
            refine aSeq ?_
            refine aSeq ?_
            refine aReg ?_
            refine sp pM ?_
            refine sp pB ?_
            refine oNil ?_
            refine aCondDec rfl (fun c56 => ?_) (fun c56 => ?_)
            · skip
              refine aSkip ?_
              refine aSeq ?_
              refine aBlock ?_
              refine aSeq ?_
              have hlt : i < 6 := by omega
              obtain ⟨s, hs⟩ : ∃ s, w.safe[i]? = some s := ⟨_, List.getElem?_eq_getElem (by rw [r.sn]; omega)⟩
              obtain ⟨q, hq⟩ : ∃ q, w.waits[i]? = some q := ⟨_, List.getElem?_eq_getElem (by rw [r.wn]; omega)⟩
              have hcl := cnt_le w i
              have hrd : (w.crash tr).read i = ((w.crash tr).get i, 0) := by rw [read_ok rfl (by omega) (by rw [r2.sn]; omega), Int.toNat_natCast]
              have hre : (.bool (((w.crash tr).read i).2 == 0) : Value) = .bool true := by rw [hrd]; rfl
              have hsl : s.length = 512 := f.ss _ (List.mem_of_getElem? hs)
              have hql := f.ws _ (List.mem_of_getElem? hq)
              have hgl : ((w.crash tr).get i).length ≤ 1000000 := by have := r2.g512 hlt; omega
              have hcy : 0 < q.length → cnt w (i + 1) = cnt w i + 1 := fun h => cnt_yes (by rw [getD_get hq]; exact h)
              have hcn : q.length = 0 → cnt w (i + 1) = cnt w i := fun h => cnt_no (by rw [getD_get hq]; exact h)
              have hgs := crash_get (w := w) (l := tr) i (by rw [r.sn]; exact hlt)
              have hsm := crash_some (l := tr) (by rw [r.sn, r.wn]) (show i < w.waits.length by rw [r.wn]; exact hlt)
              rw [getD_get hq, getD_get hs] at hsm
              have hg0 : q.length = 0 → (w.crash tr).get i = s := fun h => by rw [hgs, List.getD, crash_none (by rw [getD_get hq]; exact h), hs]; rfl
              have hg1 : 0 < q.length → tr.length ≤ cnt w i → (w.crash tr).get i = s := fun h h2 => by rw [hgs, hsm h, List.getElem?_eq_none h2]
              have hgk : ∀ t, tr[cnt w i]? = some t → 0 < q.length → (w.crash tr).get i = (if t.kind = 1 then q else if t.kind = 2 then torn t.b s else s) := fun t ht h => by rw [hgs, hsm h, ht]
              refine aReg ?_
              refine sp pM ?_
              refine sp pM ?_
              refine sa ?_
              refine cai rfl rfl rfl (disk_Read_s db bs bw 6 i S2 [] (w.crash tr) r2) ?_
              refine sp pM ?_
              refine sp pX ?_
              refine sp pX ?_
              refine sp pMa ?_
              refine sp pMa ?_
              refine oNil ?_
              refine aSeq ?_
              refine aReg ?_
              refine sp pM ?_
              refine sp (pBin rfl rfl rfl rfl hre) ?_
              refine sp pM ?_
              refine gp pM ?_
              refine gp (pFb fd_83_0) ?_
              refine gr (rB1 ty_81) ?_
              refine gp pM ?_
              first | refine gp (pIx es_81) ?_ | (refine obtSN 70 71 rfl rfl (by omega) (fun x72 hx72 => ?_); refine gp (pIs es_81 hx72) ?_) | (refine obtS 70 71 rfl rfl (by omega) (by omega) (fun x72 hx72 => ?_); refine gp (pIs es_81 hx72) ?_) | refine gp (pIo es_81) ?_
              refine gr (by first | exact rS1 ty_48 | exact rB1 ty_48) ?_
              refine ga ?_
              refine (qCall0 rfl rfl (by decide) rfl rfl (ref01_Same _ s (by rw [hrd]; exact hgl) (by first | omega | (have := htl _ (by assumption); simp [torn]; omega))) ?_).op
              rintro _ _ ⟨rfl, rfl⟩
              refine sp pK ?_
              refine sp pMa ?_
              refine oNil ?_
              refine cutF (α := Unit) (kept := [(1, _), (5, _), (7, _), (10, _)]) (H0 := []) (fun _ => True) (fun _ => [(9, .int (cnt w (i + 1))), (13, .v (.bool true))]) (fun _ => []) ⟨rfl, rfl, rfl, rfl, trivial⟩ (by repeat constructor) ?_ ?_
              · skip
                refine aSeq ?_
                refine aReg ?_
                refine sp (pFb fd_83_1) ?_
                refine sr (rB1 ty_81) ?_
                refine sp pM ?_
                first | refine sp (pIx es_81) ?_ | (refine obtSN 77 78 rfl rfl (by omega) (fun x79 hx79 => ?_); refine sp (pIs es_81 hx79) ?_) | (refine obtS 77 78 rfl rfl (by omega) (by omega) (fun x79 hx79 => ?_); refine sp (pIs es_81 hx79) ?_) | refine sp (pIo es_81) ?_
                refine sr (by first | exact rS1 ty_48 | exact rB1 ty_48) ?_
                refine sp (by first | exact pLm sl_48 | exact pLs sl_48 | exact pLv sl_48) ?_
                refine sp pB ?_
                refine oNil ?_
                refine aCondDec rfl (fun c82 => ?_) (fun c82 => ?_)
                · skip
                  refine aSeq ?_
                  refine aSeq ?_
                  refine aReg ?_
                  refine sp pM ?_
                  refine sp pM ?_
                  refine sp (by first | exact pLm sl_87 | exact pLs sl_87) ?_
                  refine sp pB ?_
                  refine sp pM ?_
                  refine oSplitDec 87 rfl (fun c87 => ?_) (fun c87 => ?_)
                  · skip
                    refine gp pM ?_
                    refine gp pM ?_
                    first | refine gp (pIx es_87) ?_ | (refine obtSN 88 89 rfl rfl (by omega) (fun x90 hx90 => ?_); refine gp (pIs es_87 hx90) ?_) | (refine obtS 88 89 rfl rfl (by omega) (by omega) (fun x90 hx90 => ?_); refine gp (pIs es_87 hx90) ?_) | refine gp (pIo es_87) ?_
                    refine gp (pFs fd_101_0) ?_
                    refine gr (rS1 ty_3) ?_
                    refine gp pB ?_
                    refine sp pK ?_
                    refine oNil ?_
                    refine aCondEq rfl (fun c94 => ?_) (fun c94 => ?_)
                    · skip
                      refine aReg ?_
                      refine sp pM ?_
                      refine sp (pBin rfl rfl rfl rfl hre) ?_
                      refine sp pM ?_
                      refine gp pM ?_
                      refine gp (pFb fd_83_1) ?_
                      refine gr (rB1 ty_81) ?_
                      refine gp pM ?_
                      first | refine gp (pIx es_81) ?_ | (refine obtSN 100 101 rfl rfl (by omega) (fun x102 hx102 => ?_); refine gp (pIs es_81 hx102) ?_) | (refine obtS 100 101 rfl rfl (by omega) (by omega) (fun x102 hx102 => ?_); refine gp (pIs es_81 hx102) ?_) | refine gp (pIo es_81) ?_
                      refine gr (by first | exact rS1 ty_48 | exact rB1 ty_48) ?_
                      refine ga ?_
                      refine (qCall0 rfl rfl (by decide) rfl rfl (ref01_Same _ q (by rw [hrd]; exact hgl) (by first | omega | (have := htl _ (by assumption); simp [torn]; omega))) ?_).op
                      rintro _ _ ⟨rfl, rfl⟩
                      refine sp pK ?_
                      refine sp pMa ?_
                      refine oNil ?_
                      refine aSeq ?_
                      refine aSeq ?_
                      refine aReg ?_
                      refine sp pM ?_
                      refine sp pM ?_
                      refine sp (by first | exact pLm sl_87 | exact pLs sl_87) ?_
                      refine sp pB ?_
                      refine sp pM ?_
                      refine oSplitDec 110 rfl (fun c110 => ?_) (fun c110 => ?_)
                      · skip
                        refine gp pM ?_
                        refine gp pM ?_
                        first | refine gp (pIx es_87) ?_ | (refine obtSN 111 112 rfl rfl (by omega) (fun x113 hx113 => ?_); refine gp (pIs es_87 hx113) ?_) | (refine obtS 111 112 rfl rfl (by omega) (by omega) (fun x113 hx113 => ?_); refine gp (pIs es_87 hx113) ?_) | refine gp (pIo es_87) ?_
                        refine gp (pFs fd_101_0) ?_
                        refine gr (rS1 ty_3) ?_
                        refine gp pB ?_
                        refine sp pK ?_
                        refine oNil ?_
                        refine aCondEq rfl (fun c117 => ?_) (fun c117 => ?_)
                        · skip
                          have htl : ∀ t, tr[cnt w i]? = some t → t.b.length ≤ 600 := fun t ht => htr.2.2 t (List.mem_of_getElem? ht)
                          refine aDrawT law03_DiskOnes_r22_t law03_DiskOnes_r22_b [] 18 #[false, false, false, false, false, false, false, false, false, false, false, false, false, false, false, false, false, false] (by kernel_rfl) rfl rfl (fun HT => ?_)
                          refine dp HT 0 rfl pM ?_
                          refine dp HT 1 rfl (pBin rfl rfl rfl rfl hre) ?_
                          refine dp HT 2 rfl pM ?_
                          refine dpG HT 3 rfl pM ?_
                          refine dpG HT 4 rfl pM ?_
                          refine dpG HT 5 rfl pM ?_
                          first | refine dpG HT 6 rfl (pIx es_87) ?_ | (refine obtDN 122 123 rfl rfl (by omega) (fun x124 hx124 => ?_); refine dpG HT 6 rfl (pIs es_87 hx124) ?_) | (refine obtD 122 123 rfl rfl (by omega) (by omega) (fun x124 hx124 => ?_); refine dpG HT 6 rfl (pIs es_87 hx124) ?_) | refine dpG HT 6 rfl (pIo es_87) ?_
                          refine dpG HT 7 rfl (pFs fd_101_1) ?_
                          refine drG HT 8 rfl (rS1 ty_48) ?_
                          refine dpG HT 9 rfl (pFb fd_83_0) ?_
                          refine drG HT 10 rfl (rB1 ty_81) ?_
                          refine dpG HT 11 rfl pM ?_
                          first | refine dpG HT 12 rfl (pIx es_81) ?_ | (refine obtDN 128 129 rfl rfl (by omega) (fun x130 hx130 => ?_); refine dpG HT 12 rfl (pIs es_81 hx130) ?_) | (refine obtD 128 129 rfl rfl (by omega) (by omega) (fun x130 hx130 => ?_); refine dpG HT 12 rfl (pIs es_81 hx130) ?_) | refine dpG HT 12 rfl (pIo es_81) ?_
                          refine drG HT 13 rfl (by first | exact rS1 ty_48 | exact rB1 ty_48) ?_
                          refine dGo ?_
                          refine e1G HT 14 rfl ?_
                          refine ci rfl rfl rfl (ref03_Torn_s _ s (by have := htl _ (by assumption); omega) (by omega)) ?_
                          refine e1G HT 15 rfl ?_
                          refine qCall0 rfl rfl (by decide) rfl rfl (ref01_Same _ _ (by rw [hrd]; exact hgl) (by first | omega | (have := htl _ (by assumption); simp [torn]; omega))) ?_
                          rintro _ _ ⟨rfl, rfl⟩
                          refine ef HT 16 rfl pK ?_
                          refine ePure (i := 17) #[true, true, true, true, true, true, true, true, true, true, true, true, true, true, true, true, true, true] rfl rfl rfl (HT.any (by kernel_rfl)) (by exact pMa) (by decide) ?_
                          refine eE HT ?_
                          clear HT
                          refine aReg ?_
                          refine sp pM ?_
                          refine sp pAd ?_
                          refine sp pMa ?_
                          refine oNil ?_
                          refine ⟨(), ?_, ⟨gInt rfl (by first | (rw [hcn (by omega)]; done) | (rw [hcy (by omega)]; rfl)), gAv rfl ?_, rfl, rfl, rfl, rfl, trivial⟩, _, (by repeat constructor)⟩
                          exact trivial
                          first | (rw [hrd, hg0 (by omega)]; simp; done) | (rw [hrd, hg1 (by omega) (by omega)]; simp; done) | (rw [hrd, hgk _ (by assumption) (by omega), if_pos (by omega)]; simp; done) | (rw [hrd, hgk _ (by assumption) (by omega), if_neg (by omega), if_pos (by omega)]; simp; done) | (rw [hrd, hgk _ (by assumption) (by omega), if_neg (by omega), if_neg (by omega)]; simp; done)
                        · skip
                          refine aSkip ?_
                          refine aReg ?_
                          refine sp pM ?_
                          refine sp pAd ?_
                          refine sp pMa ?_
                          refine oNil ?_
                          refine ⟨(), ?_, ⟨gInt rfl (by first | (rw [hcn (by omega)]; done) | (rw [hcy (by omega)]; rfl)), gAv rfl ?_, rfl, rfl, rfl, rfl, trivial⟩, _, (by repeat constructor)⟩
                          exact trivial
                          first | (rw [hrd, hg0 (by omega)]; simp; done) | (rw [hrd, hg1 (by omega) (by omega)]; simp; done) | (rw [hrd, hgk _ (by assumption) (by omega), if_pos (by omega)]; simp; done) | (rw [hrd, hgk _ (by assumption) (by omega), if_neg (by omega), if_pos (by omega)]; simp; done) | (rw [hrd, hgk _ (by assumption) (by omega), if_neg (by omega), if_neg (by omega)]; simp; done)
                      · skip
                        refine gf ?_
                        refine gf ?_
                        refine gf ?_
                        refine gf ?_
                        refine gf ?_
                        refine gf ?_
                        refine sp pK ?_
                        refine oNil ?_
                        refine aCondF rfl ?_
                        refine aSkip ?_
                        refine aReg ?_
                        refine sp pM ?_
                        refine sp pAd ?_
                        refine sp pMa ?_
                        refine oNil ?_
                        refine ⟨(), ?_, ⟨gInt rfl (by first | (rw [hcn (by omega)]; done) | (rw [hcy (by omega)]; rfl)), gAv rfl ?_, rfl, rfl, rfl, rfl, trivial⟩, _, (by repeat constructor)⟩
                        exact trivial
                        first | (rw [hrd, hg0 (by omega)]; simp; done) | (rw [hrd, hg1 (by omega) (by omega)]; simp; done) | (rw [hrd, hgk _ (by assumption) (by omega), if_pos (by omega)]; simp; done) | (rw [hrd, hgk _ (by assumption) (by omega), if_neg (by omega), if_pos (by omega)]; simp; done) | (rw [hrd, hgk _ (by assumption) (by omega), if_neg (by omega), if_neg (by omega)]; simp; done)
                    · skip
                      refine aSkip ?_
                      refine aSeq ?_
                      refine aSeq ?_
                      refine aReg ?_
                      refine sp pM ?_
                      refine sp pM ?_
                      refine sp (by first | exact pLm sl_87 | exact pLs sl_87) ?_
                      refine sp pB ?_
                      refine sp pM ?_
                      refine oSplitDec 110 rfl (fun c110 => ?_) (fun c110 => ?_)
                      · skip
                        refine gp pM ?_
                        refine gp pM ?_
                        first | refine gp (pIx es_87) ?_ | (refine obtSN 111 112 rfl rfl (by omega) (fun x113 hx113 => ?_); refine gp (pIs es_87 hx113) ?_) | (refine obtS 111 112 rfl rfl (by omega) (by omega) (fun x113 hx113 => ?_); refine gp (pIs es_87 hx113) ?_) | refine gp (pIo es_87) ?_
                        refine gp (pFs fd_101_0) ?_
                        refine gr (rS1 ty_3) ?_
                        refine gp pB ?_
                        refine sp pK ?_
                        refine oNil ?_
                        refine aCondEq rfl (fun c117 => ?_) (fun c117 => ?_)
                        · skip
                          have htl : ∀ t, tr[cnt w i]? = some t → t.b.length ≤ 600 := fun t ht => htr.2.2 t (List.mem_of_getElem? ht)
                          refine aDrawT law03_DiskOnes_r22_t law03_DiskOnes_r22_b [] 18 #[false, false, false, false, false, false, false, false, false, false, false, false, false, false, false, false, false, false] (by kernel_rfl) rfl rfl (fun HT => ?_)
                          refine dp HT 0 rfl pM ?_
                          refine dp HT 1 rfl (pBin rfl rfl rfl rfl hre) ?_
                          refine dp HT 2 rfl pM ?_
                          refine dpG HT 3 rfl pM ?_
                          refine dpG HT 4 rfl pM ?_
                          refine dpG HT 5 rfl pM ?_
                          first | refine dpG HT 6 rfl (pIx es_87) ?_ | (refine obtDN 122 123 rfl rfl (by omega) (fun x124 hx124 => ?_); refine dpG HT 6 rfl (pIs es_87 hx124) ?_) | (refine obtD 122 123 rfl rfl (by omega) (by omega) (fun x124 hx124 => ?_); refine dpG HT 6 rfl (pIs es_87 hx124) ?_) | refine dpG HT 6 rfl (pIo es_87) ?_
                          refine dpG HT 7 rfl (pFs fd_101_1) ?_
                          refine drG HT 8 rfl (rS1 ty_48) ?_
                          refine dpG HT 9 rfl (pFb fd_83_0) ?_
                          refine drG HT 10 rfl (rB1 ty_81) ?_
                          refine dpG HT 11 rfl pM ?_
                          first | refine dpG HT 12 rfl (pIx es_81) ?_ | (refine obtDN 128 129 rfl rfl (by omega) (fun x130 hx130 => ?_); refine dpG HT 12 rfl (pIs es_81 hx130) ?_) | (refine obtD 128 129 rfl rfl (by omega) (by omega) (fun x130 hx130 => ?_); refine dpG HT 12 rfl (pIs es_81 hx130) ?_) | refine dpG HT 12 rfl (pIo es_81) ?_
                          refine drG HT 13 rfl (by first | exact rS1 ty_48 | exact rB1 ty_48) ?_
                          refine dGo ?_
                          refine e1G HT 14 rfl ?_
                          refine ci rfl rfl rfl (ref03_Torn_s _ s (by have := htl _ (by assumption); omega) (by omega)) ?_
                          refine e1G HT 15 rfl ?_
                          refine qCall0 rfl rfl (by decide) rfl rfl (ref01_Same _ _ (by rw [hrd]; exact hgl) (by first | omega | (have := htl _ (by assumption); simp [torn]; omega))) ?_
                          rintro _ _ ⟨rfl, rfl⟩
                          refine ef HT 16 rfl pK ?_
                          refine ePure (i := 17) #[true, true, true, true, true, true, true, true, true, true, true, true, true, true, true, true, true, true] rfl rfl rfl (HT.any (by kernel_rfl)) (by exact pMa) (by decide) ?_
                          refine eE HT ?_
                          clear HT
                          refine aReg ?_
                          refine sp pM ?_
                          refine sp pAd ?_
                          refine sp pMa ?_
                          refine oNil ?_
                          refine ⟨(), ?_, ⟨gInt rfl (by first | (rw [hcn (by omega)]; done) | (rw [hcy (by omega)]; rfl)), gAv rfl ?_, rfl, rfl, rfl, rfl, trivial⟩, _, (by repeat constructor)⟩
                          exact trivial
                          first | (rw [hrd, hg0 (by omega)]; simp; done) | (rw [hrd, hg1 (by omega) (by omega)]; simp; done) | (rw [hrd, hgk _ (by assumption) (by omega), if_pos (by omega)]; simp; done) | (rw [hrd, hgk _ (by assumption) (by omega), if_neg (by omega), if_pos (by omega)]; simp; done) | (rw [hrd, hgk _ (by assumption) (by omega), if_neg (by omega), if_neg (by omega)]; simp; done)
                        · skip
                          refine aSkip ?_
                          refine aReg ?_
                          refine sp pM ?_
                          refine sp pAd ?_
                          refine sp pMa ?_
                          refine oNil ?_
                          refine ⟨(), ?_, ⟨gInt rfl (by first | (rw [hcn (by omega)]; done) | (rw [hcy (by omega)]; rfl)), gAv rfl ?_, rfl, rfl, rfl, rfl, trivial⟩, _, (by repeat constructor)⟩
                          exact trivial
                          first | (rw [hrd, hg0 (by omega)]; simp; done) | (rw [hrd, hg1 (by omega) (by omega)]; simp; done) | (rw [hrd, hgk _ (by assumption) (by omega), if_pos (by omega)]; simp; done) | (rw [hrd, hgk _ (by assumption) (by omega), if_neg (by omega), if_pos (by omega)]; simp; done) | (rw [hrd, hgk _ (by assumption) (by omega), if_neg (by omega), if_neg (by omega)]; simp; done)
                      · skip
                        refine gf ?_
                        refine gf ?_
                        refine gf ?_
                        refine gf ?_
                        refine gf ?_
                        refine gf ?_
                        refine sp pK ?_
                        refine oNil ?_
                        refine aCondF rfl ?_
                        refine aSkip ?_
                        refine aReg ?_
                        refine sp pM ?_
                        refine sp pAd ?_
                        refine sp pMa ?_
                        refine oNil ?_
                        refine ⟨(), ?_, ⟨gInt rfl (by first | (rw [hcn (by omega)]; done) | (rw [hcy (by omega)]; rfl)), gAv rfl ?_, rfl, rfl, rfl, rfl, trivial⟩, _, (by repeat constructor)⟩
                        exact trivial
                        first | (rw [hrd, hg0 (by omega)]; simp; done) | (rw [hrd, hg1 (by omega) (by omega)]; simp; done) | (rw [hrd, hgk _ (by assumption) (by omega), if_pos (by omega)]; simp; done) | (rw [hrd, hgk _ (by assumption) (by omega), if_neg (by omega), if_pos (by omega)]; simp; done) | (rw [hrd, hgk _ (by assumption) (by omega), if_neg (by omega), if_neg (by omega)]; simp; done)
                  · skip
                    refine gf ?_
                    refine gf ?_
                    refine gf ?_
                    refine gf ?_
                    refine gf ?_
                    refine gf ?_
                    refine sp pK ?_
                    refine oNil ?_
                    refine aCondF rfl ?_
                    refine aSkip ?_
                    refine aSeq ?_
                    refine aSeq ?_
                    refine aReg ?_
                    refine sp pM ?_
                    refine sp pM ?_
                    refine sp (by first | exact pLm sl_87 | exact pLs sl_87) ?_
                    refine sp pB ?_
                    refine sp pM ?_
                    refine oSplitDec 110 rfl (fun c110 => ?_) (fun c110 => ?_)
                    · skip
                      refine gp pM ?_
                      refine gp pM ?_
                      first | refine gp (pIx es_87) ?_ | (refine obtSN 111 112 rfl rfl (by omega) (fun x113 hx113 => ?_); refine gp (pIs es_87 hx113) ?_) | (refine obtS 111 112 rfl rfl (by omega) (by omega) (fun x113 hx113 => ?_); refine gp (pIs es_87 hx113) ?_) | refine gp (pIo es_87) ?_
                      refine gp (pFs fd_101_0) ?_
                      refine gr (rS1 ty_3) ?_
                      refine gp pB ?_
                      refine sp pK ?_
                      refine oNil ?_
                      refine aCondEq rfl (fun c117 => ?_) (fun c117 => ?_)
                      · skip
                        have htl : ∀ t, tr[cnt w i]? = some t → t.b.length ≤ 600 := fun t ht => htr.2.2 t (List.mem_of_getElem? ht)
                        refine aDrawT law03_DiskOnes_r22_t law03_DiskOnes_r22_b [] 18 #[false, false, false, false, false, false, false, false, false, false, false, false, false, false, false, false, false, false] (by kernel_rfl) rfl rfl (fun HT => ?_)
                        refine dp HT 0 rfl pM ?_
                        refine dp HT 1 rfl (pBin rfl rfl rfl rfl hre) ?_
                        refine dp HT 2 rfl pM ?_
                        refine dpG HT 3 rfl pM ?_
                        refine dpG HT 4 rfl pM ?_
                        refine dpG HT 5 rfl pM ?_
                        first | refine dpG HT 6 rfl (pIx es_87) ?_ | (refine obtDN 122 123 rfl rfl (by omega) (fun x124 hx124 => ?_); refine dpG HT 6 rfl (pIs es_87 hx124) ?_) | (refine obtD 122 123 rfl rfl (by omega) (by omega) (fun x124 hx124 => ?_); refine dpG HT 6 rfl (pIs es_87 hx124) ?_) | refine dpG HT 6 rfl (pIo es_87) ?_
                        refine dpG HT 7 rfl (pFs fd_101_1) ?_
                        refine drG HT 8 rfl (rS1 ty_48) ?_
                        refine dpG HT 9 rfl (pFb fd_83_0) ?_
                        refine drG HT 10 rfl (rB1 ty_81) ?_
                        refine dpG HT 11 rfl pM ?_
                        first | refine dpG HT 12 rfl (pIx es_81) ?_ | (refine obtDN 128 129 rfl rfl (by omega) (fun x130 hx130 => ?_); refine dpG HT 12 rfl (pIs es_81 hx130) ?_) | (refine obtD 128 129 rfl rfl (by omega) (by omega) (fun x130 hx130 => ?_); refine dpG HT 12 rfl (pIs es_81 hx130) ?_) | refine dpG HT 12 rfl (pIo es_81) ?_
                        refine drG HT 13 rfl (by first | exact rS1 ty_48 | exact rB1 ty_48) ?_
                        refine dGo ?_
                        refine e1G HT 14 rfl ?_
                        refine ci rfl rfl rfl (ref03_Torn_s _ s (by have := htl _ (by assumption); omega) (by omega)) ?_
                        refine e1G HT 15 rfl ?_
                        refine qCall0 rfl rfl (by decide) rfl rfl (ref01_Same _ _ (by rw [hrd]; exact hgl) (by first | omega | (have := htl _ (by assumption); simp [torn]; omega))) ?_
                        rintro _ _ ⟨rfl, rfl⟩
                        refine ef HT 16 rfl pK ?_
                        refine ePure (i := 17) #[true, true, true, true, true, true, true, true, true, true, true, true, true, true, true, true, true, true] rfl rfl rfl (HT.any (by kernel_rfl)) (by exact pMa) (by decide) ?_
                        refine eE HT ?_
                        clear HT
                        refine aReg ?_
                        refine sp pM ?_
                        refine sp pAd ?_
                        refine sp pMa ?_
                        refine oNil ?_
                        refine ⟨(), ?_, ⟨gInt rfl (by first | (rw [hcn (by omega)]; done) | (rw [hcy (by omega)]; rfl)), gAv rfl ?_, rfl, rfl, rfl, rfl, trivial⟩, _, (by repeat constructor)⟩
                        exact trivial
                        first | (rw [hrd, hg0 (by omega)]; simp; done) | (rw [hrd, hg1 (by omega) (by omega)]; simp; done) | (rw [hrd, hgk _ (by assumption) (by omega), if_pos (by omega)]; simp; done) | (rw [hrd, hgk _ (by assumption) (by omega), if_neg (by omega), if_pos (by omega)]; simp; done) | (rw [hrd, hgk _ (by assumption) (by omega), if_neg (by omega), if_neg (by omega)]; simp; done)
                      · skip
                        refine aSkip ?_
                        refine aReg ?_
                        refine sp pM ?_
                        refine sp pAd ?_
                        refine sp pMa ?_
                        refine oNil ?_
                        refine ⟨(), ?_, ⟨gInt rfl (by first | (rw [hcn (by omega)]; done) | (rw [hcy (by omega)]; rfl)), gAv rfl ?_, rfl, rfl, rfl, rfl, trivial⟩, _, (by repeat constructor)⟩
                        exact trivial
                        first | (rw [hrd, hg0 (by omega)]; simp; done) | (rw [hrd, hg1 (by omega) (by omega)]; simp; done) | (rw [hrd, hgk _ (by assumption) (by omega), if_pos (by omega)]; simp; done) | (rw [hrd, hgk _ (by assumption) (by omega), if_neg (by omega), if_pos (by omega)]; simp; done) | (rw [hrd, hgk _ (by assumption) (by omega), if_neg (by omega), if_neg (by omega)]; simp; done)
                    · skip
                      refine gf ?_
                      refine gf ?_
                      refine gf ?_
                      refine gf ?_
                      refine gf ?_
                      refine gf ?_
                      refine sp pK ?_
                      refine oNil ?_
                      refine aCondF rfl ?_
                      refine aSkip ?_
                      refine aReg ?_
                      refine sp pM ?_
                      refine sp pAd ?_
                      refine sp pMa ?_
                      refine oNil ?_
                      refine ⟨(), ?_, ⟨gInt rfl (by first | (rw [hcn (by omega)]; done) | (rw [hcy (by omega)]; rfl)), gAv rfl ?_, rfl, rfl, rfl, rfl, trivial⟩, _, (by repeat constructor)⟩
                      exact trivial
                      first | (rw [hrd, hg0 (by omega)]; simp; done) | (rw [hrd, hg1 (by omega) (by omega)]; simp; done) | (rw [hrd, hgk _ (by assumption) (by omega), if_pos (by omega)]; simp; done) | (rw [hrd, hgk _ (by assumption) (by omega), if_neg (by omega), if_pos (by omega)]; simp; done) | (rw [hrd, hgk _ (by assumption) (by omega), if_neg (by omega), if_neg (by omega)]; simp; done)
                · skip
                  refine aSkip ?_
                  refine ⟨(), ?_, ⟨gInt rfl (by first | (rw [hcn (by omega)]; done) | (rw [hcy (by omega)]; rfl)), gAv rfl ?_, rfl, rfl, rfl, rfl, trivial⟩, _, (by repeat constructor)⟩
                  exact trivial
                  first | (rw [hrd, hg0 (by omega)]; simp; done) | (rw [hrd, hg1 (by omega) (by omega)]; simp; done) | (rw [hrd, hgk _ (by assumption) (by omega), if_pos (by omega)]; simp; done) | (rw [hrd, hgk _ (by assumption) (by omega), if_neg (by omega), if_pos (by omega)]; simp; done) | (rw [hrd, hgk _ (by assumption) (by omega), if_neg (by omega), if_neg (by omega)]; simp; done)
              · rintro _ _
                refine aSeq ?_
                refine aReg ?_
                refine sp pM ?_
                refine sp pNo ?_
                refine oNil ?_
                refine aCondF rfl ?_
                refine aSkip ?_
                refine aReg ?_
                refine sp pM ?_
                refine sp pAd ?_
                refine sp pMa ?_
                refine oNil ?_
                refine ⟨i + 1, ?_, by (try dsimp only); omega, ⟨gInt rfl (by first | rfl | omega | simp), gInt rfl (by first | rfl | omega | simp), rfl, rfl, rfl, trivial⟩, _, (by repeat constructor)⟩
                omega
            · skip
              refine aExit rfl ?_
              refine aSeq ?_
              refine aReg ?_
              refine sp pM ?_
              refine sa ?_
              refine cai rfl rfl rfl (disk_Waits_s db bs bw 6 S2 [] (w.crash tr) r2) ?_
              refine sp (pLenS' (n := 0) (pLs sl_103) (by rw [crash_waiting]; rfl)) ?_
              refine sp (pBin rfl rfl rfl rfl (rfl : _ = Value.bool true)) ?_
              refine sp pM ?_
              refine gp pM ?_
              refine ga ?_
              refine aCall rfl rfl (by decide) rfl rfl (.cons (by repeat constructor) .nil) (disk_Dead _ _ _ _ _ _) ?_
              rintro _ _ ⟨rfl, rfl⟩
              refine gp pNo ?_
              refine sp pK ?_
              refine sp pM ?_
              refine ga ?_
              refine (qCallV rfl rfl (by decide) rfl rfl (lents_refl _) law03_awake ?_).op
              refine sp pK ?_
              refine sp pMa ?_
              refine oNil ?_
              refine aRet ?_
              refine finIs rfl ?_
              rfl

end A
end Go.Proofs.Ytkgemkadebgeoaa
