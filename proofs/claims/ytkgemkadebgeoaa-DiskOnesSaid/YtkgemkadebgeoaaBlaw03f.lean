/- What functions of the program compute: law03f -/
import Derived.Test.YtkgemkadebgeoaaBlaw03e
import Derived.Test.YtkgemkadebgeoaaProg
import Derived.KernelRfl
set_option linter.unusedVariables false
set_option linter.unusedSimpArgs false
namespace Go.Proofs.Ytkgemkadebgeoaa
namespace A

theorem fd_76_0 : fieldOf Try.prog 76 0 = some (0, 1, false) := by kernel_rfl
theorem fd_76_1 : fieldOf Try.prog 76 1 = some (1, 1, false) := by kernel_rfl
theorem ik_3 : intKindOf Try.prog 3 = some .i64 := by kernel_rfl
theorem ik_5 : intKindOf Try.prog 5 = some .u8 := by kernel_rfl
theorem write_live {v : DW} (h : v.dead = false) (ha : v.armed = -1) {k : Nat} (hk : k < v.safe.length) {c : BS} (hc : c.length = 512) : v.write k c = ({ v with waits := v.waits.set k c }, 0) := by
  have e : v.act = (v, true) := by
    obtain ⟨s, w, a, d⟩ := v
    simp only at h ha
    subst h
    subst ha
    rfl
  rw [DW.write, if_neg (by simp [h]), if_neg (by omega), e, if_pos rfl]
  rfl
theorem flush_live {v : DW} (h : v.dead = false) (ha : v.armed = -1) : v.flush = (⟨(List.range v.safe.length).map v.get, List.replicate v.safe.length [], -1, false⟩, 0) := by
  have e : v.act = (v, true) := by
    obtain ⟨s, w, a, d⟩ := v
    simp only at h ha
    subst h
    subst ha
    rfl
  rw [DW.flush, e, if_pos rfl, ha]
/-- A sector is safe, and does not wait. -/
structure Kp (v : DW) (k : Nat) (c : BS) : Prop where
  s : v.safe[k]? = some c
  w : v.waits[k]? = some []
theorem Kp.get {v : DW} {k : Nat} {c : BS} (p : Kp v k c) : v.get k = c := by
  rw [DW.get, getD_get p.w, if_neg (by simp), getD_get p.s]
theorem Kp.lt {v : DW} {k : Nat} {c : BS} (p : Kp v k c) : k < v.safe.length := (List.getElem?_eq_some_iff.1 p.s).1
theorem crash_keeps {w : DW} {k : Nat} : ∀ (ps : List (Nat × DTear)) (s : List BS), (∀ p ∈ ps, p.1 ≠ k) → (ps.foldl (crash1 w) s)[k]? = s[k]?
  | [], _, _ => rfl
  | p :: ps, s, h => by
    rw [List.foldl_cons, crash_keeps ps _ (fun q hq => h q (List.mem_cons_of_mem _ hq))]
    have := h p List.mem_cons_self
    unfold crash1
    split
    · rw [List.getElem?_set_ne this]
    · split
      · rw [List.getElem?_set_ne this]
      · rfl
theorem Kp.crash {v : DW} {k : Nat} {c : BS} (p : Kp v k c) (l : List DTear) : Kp (v.crash l) k c where
  s := by
    show ((v.waiting.zip l).foldl (crash1 v) v.safe)[k]? = _
    rw [crash_keeps _ _ (fun q hq e => ?_), p.s]
    have hm := (List.of_mem_zip hq).1
    rw [DW.waiting, List.mem_filter] at hm
    rw [e, getD_get p.w] at hm
    simp at hm
  w := by
    have := p.lt
    show (List.replicate v.safe.length ([] : BS))[k]? = _
    rw [List.getElem?_replicate, if_pos this]
theorem Kp.act1 {v : DW} {k : Nat} {c : BS} (p : Kp v k c) (hwl : v.waits.length = v.safe.length) (a : DAct) (h : ¬ (a.d = 0 ∧ a.n = k)) : Kp (v.act1 a).1 k c := by
  unfold DW.act1
  split
  · rename_i hd
    have hn : a.n ≠ k := fun e => h ⟨hd, e⟩
    unfold DW.write
    split
    · exact p
    · split
      · exact p
      · rename_i h1 h2
        split
        · exact ⟨p.s, by show (v.waits.set _ _)[k]? = _; rw [List.getElem?_set_ne (by omega)]; exact p.w⟩
        · exact ⟨p.s, p.w⟩
  · split
    · unfold DW.flush
      split
      · refine ⟨?_, ?_⟩
        · show ((List.range v.safe.length).map v.get)[k]? = _
          rw [List.getElem?_map, List.getElem?_range p.lt, Option.map_some, p.get]
        · show (List.replicate v.safe.length ([] : BS))[k]? = _
          rw [List.getElem?_replicate, if_pos p.lt]
      · exact ⟨p.s, p.w⟩
    · split
      · exact ⟨p.s, p.w⟩
      · split
        · exact p.crash _
        · exact p
theorem kp_new {v : DW} {k : Nat} {c : BS} (hk : k < v.safe.length) (hw : v.waits.length = v.safe.length) (hc : c.length = 512) (h : v.dead = false) (ha : v.armed = -1) : ((v.write k c).1.flush.2 = 0 ∧ (v.write k c).2 = 0) ∧ Kp (v.write k c).1.flush.1 k c := by
  rw [write_live h ha hk hc]
  rw [flush_live (by exact h) (by exact ha)]
  refine ⟨⟨rfl, rfl⟩, ?_, ?_⟩
  · show ((List.range v.safe.length).map _)[k]? = _
    rw [List.getElem?_map, List.getElem?_range hk, Option.map_some, DW.get]
    have : (v.waits.set k c).getD k [] = c := by simp [List.getD, hw, hk]
    show some (if 0 < ((v.waits.set k c).getD k []).length then _ else _) = _
    rw [this, if_pos (by omega)]
  · show (List.replicate v.safe.length ([] : BS))[k]? = _
    rw [List.getElem?_replicate, if_pos hk]

theorem i64w {n : Int} (h1 : -9223372036854775808 ≤ n) (h2 : n < 9223372036854775808) : IntKind.i64.wrap n = n := wrap_i64 h1 h2

theorem law03_Fill_s (b : BS) (hb : b.length ≤ 1000) : Triple Try.prog 48 [.sl 1 (b.map by1)] [] (Is (.sl 1 ((fill b).map by1)) []) :=
  ((law03_Fill b hb).mono (Q' := Own 5 1 ((fill b).map by1) []) fun q h' ⟨g, c, hq, hh⟩ => ⟨g, c, by rw [List.length_map, fill_len]; exact hq, hh⟩).settle
theorem disk_Read_s (db bs bw n : Nat) (i : Int) (S W : List (Int × BS)) (w : DW) (r : Rel n S W w) : Triple Try.prog 50 [.v (.pointer (some ⟨db, 0, none⟩)), .int i] [.box db [.int n, .v (.map (some bs)), .v (.map (some bw)), .int w.armed, .v (.bool w.dead)], .map bs (kvA S), .map bw (kvA W)] (Is (.tup [.sl 1 ((w.read i).1.map by1), .int (w.read i).2]) [.box db [.int n, .v (.map (some bs)), .v (.map (some bw)), .int w.armed, .v (.bool w.dead)], .map bs (kvA S), .map bw (kvA W)]) :=
  (disk_Read db bs bw n i S W w r).deep fun q h' ⟨g, c, hq, hh⟩ => ⟨_, [.sl g c 5 1 ((w.read i).1.map by1)], [.box db [.int n, .v (.map (some bs)), .v (.map (some bw)), .int w.armed, .v (.bool w.dead)], .map bs (kvA S), .map bw (kvA W)], by subst hh; exact .cons .hd .nil, by subst hq; exact .tup (.sl (List.mem_singleton.2 rfl) (by simp) Deep.refl (.same (.row .nil))) (.row .nil), rfl, rfl⟩
theorem disk_Waits_s (db bs bw n : Nat) (S W : List (Int × BS)) (w : DW) (r : Rel n S W w) : Triple Try.prog 54 [.v (.pointer (some ⟨db, 0, none⟩))] [.box db [.int n, .v (.map (some bs)), .v (.map (some bw)), .int w.armed, .v (.bool w.dead)], .map bs (kvA S), .map bw (kvA W)] (Is (.sl 1 ((w.waiting.map (fun i : Nat => (i : Int))).map intA)) [.box db [.int n, .v (.map (some bs)), .v (.map (some bw)), .int w.armed, .v (.bool w.dead)], .map bs (kvA S), .map bw (kvA W)]) :=
  ((disk_Waits db bs bw n S W w r).mono (Q' := Own 3 1 ((w.waiting.map (fun i : Nat => (i : Int))).map intA) [.box db [.int n, .v (.map (some bs)), .v (.map (some bw)), .int w.armed, .v (.bool w.dead)], .map bs (kvA S), .map bw (kvA W)]) fun q h' ⟨g, c, hq, hh⟩ => ⟨g, c, by simp [hq], hh⟩).settle

/- waymarklaw03.DiskFirm -/
def law03_DiskFirm_r1_T : Bool × List (List Nat × List Nat) := (true, [([], []), ([0], [0]), ([], []), ([2], [2]), ([1, 0, 1], [1]), ([3, 4, 0, 1, 2, 3, 4], [3])])
def law03_DiskFirm_r1_B : List Nat := [0, 1, 0, 4, 3, 31]
theorem law03_DiskFirm_r1_t : Go.Proofs.YtkgemkadebgeoaaW.PrintLast.rtab .any (Go.Proofs.YtkgemkadebgeoaaW.PrintLast.opsOf Try.f9 1) = law03_DiskFirm_r1_T := by kernel_rfl
theorem law03_DiskFirm_r1_b : Go.Proofs.YtkgemkadebgeoaaW.PrintLast.waitsOk law03_DiskFirm_r1_T.2 law03_DiskFirm_r1_B = true := by kernel_rfl
def law03_DiskFirm_r11_T : Bool × List (List Nat × List Nat) := (true, [([], []), ([], []), ([], []), ([], []), ([2, 3], [2, 3]), ([4], [4]), ([0, 1, 5], [0, 1, 5]), ([6], [6]), ([7], [7]), ([7], [7]), ([8, 6, 0, 1, 2, 3, 4, 5, 6, 7, 8], [8])])
def law03_DiskFirm_r11_B : List Nat := [0, 0, 0, 0, 12, 28, 63, 127, 255, 255, 511]
theorem law03_DiskFirm_r11_t : Go.Proofs.YtkgemkadebgeoaaW.PrintLast.rtab .any (Go.Proofs.YtkgemkadebgeoaaW.PrintLast.opsOf Try.f9 11) = law03_DiskFirm_r11_T := by kernel_rfl
theorem law03_DiskFirm_r11_b : Go.Proofs.YtkgemkadebgeoaaW.PrintLast.waitsOk law03_DiskFirm_r11_T.2 law03_DiskFirm_r11_B = true := by kernel_rfl
def law03_DiskFirm_r21_T : Bool × List (List Nat × List Nat) := (true, [([], []), ([], []), ([], []), ([], []), ([2, 3], [2, 3]), ([4], [4]), ([0, 1, 5], [0, 1, 5]), ([6], [6]), ([7], [7]), ([7], [7]), ([8, 6, 0, 1, 2, 3, 4, 5, 6, 7, 8], [8])])
def law03_DiskFirm_r21_B : List Nat := [0, 0, 0, 0, 12, 28, 63, 127, 255, 255, 511]
theorem law03_DiskFirm_r21_t : Go.Proofs.YtkgemkadebgeoaaW.PrintLast.rtab .any (Go.Proofs.YtkgemkadebgeoaaW.PrintLast.opsOf Try.f9 21) = law03_DiskFirm_r21_T := by kernel_rfl
theorem law03_DiskFirm_r21_b : Go.Proofs.YtkgemkadebgeoaaW.PrintLast.waitsOk law03_DiskFirm_r21_T.2 law03_DiskFirm_r21_B = true := by kernel_rfl
set_option maxRecDepth 100000 in
set_option maxHeartbeats 2000000 in
theorem law03_DiskFirm (l m : List DAct) (at_ : Nat) (b : BS) (hl : l.length ≤ 9223372036854775807) (hm : m.length ≤ 9223372036854775807) (hla : ∀ a ∈ l, a.n ≤ 9223372036854775807) (hma : ∀ a ∈ m, a.n ≤ 9223372036854775807) (hat : at_ < 256) : Triple Try.prog 9 [.sl 5 (l.map dactC), .sl 5 (m.map dactC), .agg [.v (.int .u8 at_), .sl 1 (b.map by1)]] [] (Is (.v (.bool true)) []) := by
  refine triple_of Try.func9 rfl (by kernel_rfl) rfl (by simp) ?_
  refine aSeq ?_
  refine aReg ?_
  refine sq ?_
  refine qBox rfl rfl (by decide) rfl rfl (fun b5 => ?_)
  refine sp pMa ?_
  refine oNil ?_
  refine aSeq ?_
  refine aDrawT law03_DiskFirm_r1_t law03_DiskFirm_r1_b [] 6 #[false, false, false, false, false, false] (by kernel_rfl) rfl rfl (fun HT => ?_)
  refine dp HT 0 rfl (pFb fd_76_0) ?_
  refine dr HT 1 rfl (rB1 ty_5) ?_
  refine dp HT 2 rfl (pFb fd_76_1) ?_
  refine dr HT 3 rfl (rB1 ty_48) ?_
  refine dp HT 4 rfl pMa ?_
  refine dp HT 5 rfl pMa ?_
  refine dE HT ?_
  clear HT
  refine aSeq ?_
  refine aSeq ?_
  refine aReg ?_
  refine sp pM ?_
  refine sq ?_
  refine qCallV rfl rfl (by decide) rfl rfl (lents_refl _) (law03_Light l hl) ?_
  refine sp pNo ?_
  refine sp pM ?_
  refine oSplitNot 24 rfl (fun c24 => ?_) (fun c24 => ?_)
  · skip
    refine gf ?_
    refine gf ?_
    refine gf ?_
    refine sp pK ?_
    refine sp pM ?_
    refine gf ?_
    refine gf ?_
    refine gf ?_
    refine sp pK ?_
    refine oNil ?_
    refine aCondT rfl ?_
    refine aSeq ?_
    refine aReg ?_
    refine sq ?_
    refine qCallV rfl rfl (by decide) rfl rfl (lents_refl _) law03_awake ?_
    refine sp pMa ?_
    refine oNil ?_
    refine aRet ?_
    refine finIs rfl ?_
    rfl
  · skip
    refine gp pM ?_
    refine ga ?_
    refine (qCallV rfl rfl (by decide) rfl rfl (lents_refl _) (law03_Light m hm) ?_).op
    refine gp pNo ?_
    refine sp pK ?_
    refine sp pM ?_
    refine oSplitNot 29 rfl (fun c29 => ?_) (fun c29 => ?_)
    · skip
      refine gf ?_
      refine gf ?_
      refine gf ?_
      refine sp pK ?_
      refine oNil ?_
      refine aCondT rfl ?_
      refine aSeq ?_
      refine aReg ?_
      refine sq ?_
      refine qCallV rfl rfl (by decide) rfl rfl (lents_refl _) law03_awake ?_
      refine sp pMa ?_
      refine oNil ?_
      refine aRet ?_
      refine finIs rfl ?_
      rfl
    · skip
      refine gp pM ?_
      refine gp (by first | exact pLm sl_48 | exact pLs sl_48 | exact pLv sl_48) ?_
      refine gp pB ?_
      refine sp pK ?_
      refine oNil ?_
      refine aCondDec rfl (fun c33 => ?_) (fun c33 => ?_)
      · skip
        refine aSeq ?_
        refine aReg ?_
        refine sq ?_
        refine qCallV rfl rfl (by decide) rfl rfl (lents_refl _) law03_awake ?_
        refine sp pMa ?_
        refine oNil ?_
        refine aRet ?_
        refine finIs rfl ?_
        rfl
      · skip
        refine aSkip ?_
        refine aSeq ?_
        have hok : lightB l = true := by simp_all
        have hokm : lightB m = true := by simp_all
        have hll := light_len hok
        have hlm := light_len hokm
        refine aReg ?_
        refine sa ?_
        refine aCall rfl rfl (by decide) rfl rfl .nil (disk_New 6 (by decide) (by decide)) ?_
        rintro _ _ ⟨db, bs, bw, rfl, rfl⟩
        refine sp pM ?_
        refine sp pX ?_
        refine sp pX ?_
        refine sp pMa ?_
        refine sp pMa ?_
        refine oNil ?_
        refine aSeq ?_
        refine aSeq ?_
        refine aReg ?_
        refine sp pM ?_
        refine sp (pBin rfl rfl rfl rfl (rfl : _ = Value.bool false)) ?_
        refine sp pM ?_
        refine gp pM ?_
        refine gp (by first | exact pPtrNil rfl (.inl rfl) rfl pt_78 rfl (rfl : _ = false) | exact pSpNil rfl (.inl rfl) rfl pt_78 (rfl : _ = false)) ?_
        refine sp pK ?_
        refine oNil ?_
        refine aCondF rfl ?_
        refine aSkip ?_
        refine aSeq ?_
        refine aReg ?_
        refine sq ?_
        refine ci rfl rfl rfl (ref03_New 6 (by decide) (by decide)) ?_
        refine sq ?_
        refine qAlloc rfl rfl (by decide) ze_83 rfl (fun b11 => ?_)
        refine sa ?_
        refine oStB rfl rfl rfl rfl (by repeat constructor) ty_83 rfl (Nat.le_of_ble_eq_true rfl) rfl ?_
        refine oNil ?_
        refine aSeq ?_
        refine aSeq ?_
        refine aReg ?_
        refine sp pMa ?_
        refine oNil ?_
        refine aBlock ?_
        refine loopF (α := Nat × List (Int × BS) × List (Int × BS) × DW × DW) (kept := [(0, _), (1, _), (7, _), (8, _), (9, _), (11, _)]) (fun (i, S, W, v, w) => i ≤ l.length ∧ Rel 6 S W v ∧ Fit w) (fun (i, S, W, v, w) => [(12, .int i)]) (fun (i, S, W, v, w) => .box b11 (dwC w) :: [.box db [.int 6, .v (.map (some bs)), .v (.map (some bw)), .int v.armed, .v (.bool v.dead)], .map bs (kvA S), .map bw (kvA W)]) (fun (i, S, W, v, w) => l.length - i) (0, [], [], DW.new 6, DW.new 6) ?_ ⟨gInt rfl (by first | rfl | omega | simp), rfl, rfl, rfl, rfl, rfl, rfl, trivial⟩ (by repeat constructor) ?_
        · skip
          exact ⟨Nat.zero_le _, rel_new (by decide) (by decide), fit_new (by decide) (by decide)⟩
        · rintro ⟨i, S, W, v, w⟩ ⟨hi, r, f⟩
          refine aSeq ?_
          refine aSeq ?_
          refine aReg ?_
          refine sp pM ?_
          refine sp pM ?_
          refine sp (by first | exact pLm sl_74 | exact pLs sl_74) ?_
          refine sp pB ?_
          refine oNil ?_
          refine aCondDec rfl (fun c49 => ?_) (fun c49 => ?_)
          · skip
            refine aSkip ?_
            refine aSeq ?_
            refine aBlock ?_
            obtain ⟨a, hai⟩ : ∃ a, l[i]? = some a := ⟨_, List.getElem?_eq_getElem (by omega)⟩
            refine aDrawS (h1 := [.box b11 _]) law03_DiskFirm_r11_t law03_DiskFirm_r11_b [10] 11 #[false, false, false, false, false, false, false, false, false, false, false] (by kernel_rfl) rfl rfl (by repeat constructor) (fun HT => ?_)
            refine ep HT 0 rfl pM ?_
            refine er HT 1 rfl (by first | exact rBW ty_83 | exact rBA ty_83) ?_
            refine ep HT 2 rfl pM ?_
            refine ep HT 3 rfl pM ?_
            first | refine ep HT 4 rfl (pIx es_74) ?_ | (refine obtEN 55 56 rfl rfl (by omega) (fun x57 hx57 => ?_); refine ep HT 4 rfl (pIs es_74 hx57) ?_) | (refine obtE 55 56 rfl rfl (by omega) (by omega) (fun x57 hx57 => ?_); refine ep HT 4 rfl (pIs es_74 hx57) ?_) | refine ep HT 4 rfl (pIo es_74) ?_
            refine er HT 5 rfl (by first | exact rSW ty_89 rfl | exact rSA ty_89) ?_
            refine eOneS (i := 6) #[true, true, true, true, true, true, true, false, false, false, false] rfl (HT.one (by kernel_rfl)) (by decide) ?_
            · skip
              refine stA (hx := [.box db [.int 6, .v (.map (some bs)), .v (.map (some bw)), .int v.armed, .v (.bool v.dead)], .map bs (kvA S), .map bw (kvA W)]) (wantN rfl) (fun t ht => by cases ht <;> decide) (.cons (by repeat constructor) (.cons (by repeat constructor) (.cons (by repeat constructor) .nil))) (by repeat constructor) ?_
              refine aCall rfl rfl (by decide) rfl rfl tk_refl (law03_Do db bs bw 6 S W v w r f a (light_at hok hai) (hla a (List.mem_of_getElem? hai))) ?_
              rintro _ _ ⟨rfl, S', W', r', rfl⟩
              refine undel (d := 59) rfl ?_
              dsimp only [List.cons_append, List.nil_append]
              refine ef HT 7 rfl pM ?_
              refine ef HT 8 rfl pX ?_
              refine ef HT 9 rfl pX ?_
              refine eLast ?_
              refine f1 HT 10 rfl ?_
              refine oStB rfl rfl rfl rfl (by repeat constructor) ty_83 rfl (Nat.le_of_ble_eq_true rfl) rfl ?_
              refine fE HT ?_
              clear HT
              refine aReg ?_
              refine sp pM ?_
              refine sp pAd ?_
              refine sp pMa ?_
              refine oNil ?_
              refine ⟨(i + 1, S', W', (v.act1 a).1, (w.act1 a).1), ?_, by (try dsimp only); omega, ⟨gInt rfl (by first | rfl | omega | simp), rfl, rfl, rfl, rfl, rfl, rfl, trivial⟩, _, (by repeat constructor)⟩
              exact ⟨by omega, r', f.act1 a (hla a (List.mem_of_getElem? hai))⟩
          · skip
            refine aExit rfl ?_
            refine aSeq ?_
            refine aReg ?_
            refine sp pM ?_
            refine sa ?_
            refine aCall rfl rfl (by decide) rfl rfl (.cons (by repeat constructor) (.cons (by repeat constructor) (.cons (by repeat constructor) .nil))) ((disk_Crash db bs bw 6 S W v r []).casts (.cons .refl (.cons cast_nil .nil))) ?_
            rintro _ _ ⟨rfl, S1, r1, rfl⟩
            refine oNil ?_
            refine aSeq ?_
            obtain ⟨k, hk⟩ : ∃ k : Nat, k = at_ % 6 := ⟨_, rfl⟩
            refine aReg ?_
            refine sp pM ?_
            refine sp (pConv rfl rfl ik_5 ik_3 (i64w (by omega) (by omega))) ?_
            refine sp (pRem rfl rfl rfl (by first | decide | omega)) ?_
            rw [show (at_ : Int).tmod 6 = (k : Int) by rw [Int.tmod_eq_emod_of_nonneg (by omega)]; omega]
            refine sp pMa ?_
            refine oNil ?_
            refine aSeq ?_
            refine aSeq ?_
            obtain ⟨⟨hf0, hw0⟩, hkp⟩ := kp_new (v := (v.crash [])) (k := k) (c := fill b) (by rw [r1.sn]; omega) (by rw [r1.wn, r1.sn]) (fill_len b) rfl rfl
            have hw2 : (.bool (((v.crash []).write k (fill b)).2 != 0) : Value) = .bool false := by rw [hw0]; rfl
            have hw1 : (.bool (((v.crash []).write k (fill b)).1.flush.2 != 0) : Value) = .bool false := by rw [hf0]; rfl
            refine aReg ?_
            refine sp pM ?_
            refine sp pM ?_
            refine sp pM ?_
            refine sa ?_
            refine cai rfl rfl rfl (law03_Fill_s b (by omega)) ?_
            refine sa ?_
            refine aCall rfl rfl (by decide) rfl rfl (.cons (by repeat constructor) (.cons (by repeat constructor) (.cons (by repeat constructor) .nil))) (disk_Write db bs bw 6 k (fill b) S1 [] (v.crash []) r1) ?_
            rintro _ _ ⟨rfl, W1, r2, rfl⟩
            refine sp (pBin rfl rfl rfl rfl hw2) ?_
            refine sp pM ?_
            refine gp pM ?_
            refine ga ?_
            refine aCall rfl rfl (by decide) rfl rfl (.cons (by repeat constructor) (.cons (by repeat constructor) (.cons (by repeat constructor) .nil))) (disk_Flush db bs bw 6 S1 W1 ((v.crash []).write k (fill b)).1 r2) ?_
            rintro _ _ ⟨rfl, S2, W2, r4, rfl⟩
            refine gp (pBin rfl rfl rfl rfl hw1) ?_
            refine sp pK ?_
            refine oNil ?_
            refine aCondF rfl ?_
            refine aSkip ?_
            refine aSeq ?_
            refine aSeq ?_
            refine aReg ?_
            refine sp pMa ?_
            refine oNil ?_
            refine aBlock ?_
            refine loopF (α := Nat × List (Int × BS) × List (Int × BS) × DW × DW) (kept := [(1, _), (8, _), (9, _), (11, _), (13, _)]) (fun (i, S, W, v, w) => i ≤ m.length ∧ Rel 6 S W v ∧ Fit w ∧ Kp v k (fill b)) (fun (i, S, W, v, w) => [(14, .int i)]) (fun (i, S, W, v, w) => .box b11 (dwC w) :: [.box db [.int 6, .v (.map (some bs)), .v (.map (some bw)), .int v.armed, .v (.bool v.dead)], .map bs (kvA S), .map bw (kvA W)]) (fun (i, S, W, v, w) => m.length - i) (0, S2, W2, ((v.crash []).write k (fill b)).1.flush.1, w) ?_ ⟨gInt rfl (by first | rfl | omega | simp), rfl, rfl, rfl, rfl, rfl, trivial⟩ (by repeat constructor) ?_
            · skip
              exact ⟨Nat.zero_le _, r4, f, hkp⟩
            · rintro ⟨i, S, W, v, w⟩ ⟨hi, r, f, hkp⟩
              refine aSeq ?_
              refine aSeq ?_
              refine aReg ?_
              refine sp pM ?_
              refine sp pM ?_
              refine sp (by first | exact pLm sl_74 | exact pLs sl_74) ?_
              refine sp pB ?_
              refine oNil ?_
              refine aCondDec rfl (fun c81 => ?_) (fun c81 => ?_)
              · skip
                refine aSkip ?_
                refine aSeq ?_
                refine aBlock ?_
                refine aSeq ?_
                refine aSeq ?_
                obtain ⟨a, hai⟩ : ∃ a, m[i]? = some a := ⟨_, List.getElem?_eq_getElem (by omega)⟩
                refine aReg ?_
                refine sp pM ?_
                refine sp pM ?_
                first | refine sp (pIx es_74) ?_ | (refine obtSN 84 85 rfl rfl (by omega) (fun x86 hx86 => ?_); refine sp (pIs es_74 hx86) ?_) | (refine obtS 84 85 rfl rfl (by omega) (by omega) (fun x86 hx86 => ?_); refine sp (pIs es_74 hx86) ?_) | refine sp (pIo es_74) ?_
                refine sp (pFs fd_89_0) ?_
                refine sr (rS1 ty_3) ?_
                refine sp pB ?_
                refine sp pM ?_
                refine oSplitEq 90 rfl (fun c90 => ?_) (fun c90 => ?_)
                · skip
                  refine gp pM ?_
                  refine gp pM ?_
                  first | refine gp (pIx es_74) ?_ | (refine obtSN 91 92 rfl rfl (by omega) (fun x93 hx93 => ?_); refine gp (pIs es_74 hx93) ?_) | (refine obtS 91 92 rfl rfl (by omega) (by omega) (fun x93 hx93 => ?_); refine gp (pIs es_74 hx93) ?_) | refine gp (pIo es_74) ?_
                  refine gp (pFs fd_89_1) ?_
                  refine gr (rS1 ty_3) ?_
                  refine gp pM ?_
                  refine gp pB ?_
                  refine sp pK ?_
                  refine oNil ?_
                  refine aCondEq rfl (fun c98 => ?_) (fun c98 => ?_)
                  · skip
                    refine aSeq ?_
                    refine aReg ?_
                    refine sq ?_
                    refine qCallV rfl rfl (by decide) rfl rfl (lents_refl _) law03_awake ?_
                    refine sp pMa ?_
                    refine oNil ?_
                    refine aRet ?_
                    refine finIs rfl ?_
                    rfl
                  · skip
                    refine aSkip ?_
                    refine aDrawS (h1 := [.box b11 _]) law03_DiskFirm_r21_t law03_DiskFirm_r21_b [10] 11 #[false, false, false, false, false, false, false, false, false, false, false] (by kernel_rfl) rfl rfl (by repeat constructor) (fun HT => ?_)
                    refine ep HT 0 rfl pM ?_
                    refine er HT 1 rfl (by first | exact rBW ty_83 | exact rBA ty_83) ?_
                    refine ep HT 2 rfl pM ?_
                    refine ep HT 3 rfl pM ?_
                    first | refine ep HT 4 rfl (pIx es_74) ?_ | (refine obtEN 103 104 rfl rfl (by omega) (fun x105 hx105 => ?_); refine ep HT 4 rfl (pIs es_74 hx105) ?_) | (refine obtE 103 104 rfl rfl (by omega) (by omega) (fun x105 hx105 => ?_); refine ep HT 4 rfl (pIs es_74 hx105) ?_) | refine ep HT 4 rfl (pIo es_74) ?_
                    refine er HT 5 rfl (by first | exact rSW ty_89 rfl | exact rSA ty_89) ?_
                    refine eOneS (i := 6) #[true, true, true, true, true, true, true, false, false, false, false] rfl (HT.one (by kernel_rfl)) (by decide) ?_
                    · skip
                      refine stA (hx := [.box db [.int 6, .v (.map (some bs)), .v (.map (some bw)), .int v.armed, .v (.bool v.dead)], .map bs (kvA S), .map bw (kvA W)]) (wantN rfl) (fun t ht => by cases ht <;> decide) (.cons (by repeat constructor) (.cons (by repeat constructor) (.cons (by repeat constructor) .nil))) (by repeat constructor) ?_
                      refine aCall rfl rfl (by decide) rfl rfl tk_refl (law03_Do db bs bw 6 S W v w r f a (light_at hokm hai) (hma a (List.mem_of_getElem? hai))) ?_
                      rintro _ _ ⟨rfl, S', W', r', rfl⟩
                      refine undel (d := 107) rfl ?_
                      dsimp only [List.cons_append, List.nil_append]
                      refine ef HT 7 rfl pM ?_
                      refine ef HT 8 rfl pX ?_
                      refine ef HT 9 rfl pX ?_
                      refine eLast ?_
                      refine f1 HT 10 rfl ?_
                      refine oStB rfl rfl rfl rfl (by repeat constructor) ty_83 rfl (Nat.le_of_ble_eq_true rfl) rfl ?_
                      refine fE HT ?_
                      clear HT
                      refine aReg ?_
                      refine sp pM ?_
                      refine sp pAd ?_
                      refine sp pMa ?_
                      refine oNil ?_
                      refine ⟨(i + 1, S', W', (v.act1 a).1, (w.act1 a).1), ?_, by (try dsimp only); omega, ⟨gInt rfl (by first | rfl | omega | simp), rfl, rfl, rfl, rfl, rfl, trivial⟩, _, (by repeat constructor)⟩
                      exact ⟨by omega, r', f.act1 a (hma a (List.mem_of_getElem? hai)), hkp.act1 (by rw [r.wn, r.sn]) a (fun h => by have h1 := h.1; have h2 := h.2; simp_all)⟩
                · skip
                  refine gf ?_
                  refine gf ?_
                  refine gf ?_
                  refine gf ?_
                  refine gf ?_
                  refine gf ?_
                  refine gf ?_
                  refine sp pK ?_
                  refine oNil ?_
                  refine aCondF rfl ?_
                  refine aSkip ?_
                  refine aDrawS (h1 := [.box b11 _]) law03_DiskFirm_r21_t law03_DiskFirm_r21_b [10] 11 #[false, false, false, false, false, false, false, false, false, false, false] (by kernel_rfl) rfl rfl (by repeat constructor) (fun HT => ?_)
                  refine ep HT 0 rfl pM ?_
                  refine er HT 1 rfl (by first | exact rBW ty_83 | exact rBA ty_83) ?_
                  refine ep HT 2 rfl pM ?_
                  refine ep HT 3 rfl pM ?_
                  first | refine ep HT 4 rfl (pIx es_74) ?_ | (refine obtEN 103 104 rfl rfl (by omega) (fun x105 hx105 => ?_); refine ep HT 4 rfl (pIs es_74 hx105) ?_) | (refine obtE 103 104 rfl rfl (by omega) (by omega) (fun x105 hx105 => ?_); refine ep HT 4 rfl (pIs es_74 hx105) ?_) | refine ep HT 4 rfl (pIo es_74) ?_
                  refine er HT 5 rfl (by first | exact rSW ty_89 rfl | exact rSA ty_89) ?_
                  refine eOneS (i := 6) #[true, true, true, true, true, true, true, false, false, false, false] rfl (HT.one (by kernel_rfl)) (by decide) ?_
                  · skip
                    refine stA (hx := [.box db [.int 6, .v (.map (some bs)), .v (.map (some bw)), .int v.armed, .v (.bool v.dead)], .map bs (kvA S), .map bw (kvA W)]) (wantN rfl) (fun t ht => by cases ht <;> decide) (.cons (by repeat constructor) (.cons (by repeat constructor) (.cons (by repeat constructor) .nil))) (by repeat constructor) ?_
                    refine aCall rfl rfl (by decide) rfl rfl tk_refl (law03_Do db bs bw 6 S W v w r f a (light_at hokm hai) (hma a (List.mem_of_getElem? hai))) ?_
                    rintro _ _ ⟨rfl, S', W', r', rfl⟩
                    refine undel (d := 107) rfl ?_
                    dsimp only [List.cons_append, List.nil_append]
                    refine ef HT 7 rfl pM ?_
                    refine ef HT 8 rfl pX ?_
                    refine ef HT 9 rfl pX ?_
                    refine eLast ?_
                    refine f1 HT 10 rfl ?_
                    refine oStB rfl rfl rfl rfl (by repeat constructor) ty_83 rfl (Nat.le_of_ble_eq_true rfl) rfl ?_
                    refine fE HT ?_
                    clear HT
                    refine aReg ?_
                    refine sp pM ?_
                    refine sp pAd ?_
                    refine sp pMa ?_
                    refine oNil ?_
                    refine ⟨(i + 1, S', W', (v.act1 a).1, (w.act1 a).1), ?_, by (try dsimp only); omega, ⟨gInt rfl (by first | rfl | omega | simp), rfl, rfl, rfl, rfl, rfl, trivial⟩, _, (by repeat constructor)⟩
                    exact ⟨by omega, r', f.act1 a (hma a (List.mem_of_getElem? hai)), hkp.act1 (by rw [r.wn, r.sn]) a (fun h => by have h1 := h.1; have h2 := h.2; simp_all)⟩
              · skip
                refine aExit rfl ?_
                refine aSeq ?_
                refine aReg ?_
                refine sp pM ?_
                refine sa ?_
                refine aCall rfl rfl (by decide) rfl rfl (.cons (by repeat constructor) (.cons (by repeat constructor) (.cons (by repeat constructor) .nil))) ((disk_Crash db bs bw 6 S W v r []).casts (.cons .refl (.cons cast_nil .nil))) ?_
                rintro _ _ ⟨rfl, S3, r3, rfl⟩
                refine oNil ?_
                refine aSeq ?_
                have hkc := hkp.crash []
                have hrd : (v.crash []).read k = (fill b, 0) := by rw [read_ok rfl (by omega) (by have := hkc.lt; omega), Int.toNat_natCast, hkc.get]
                have hre : (.bool (((v.crash []).read k).2 == 0) : Value) = .bool true := by rw [hrd]; rfl
                refine aReg ?_
                refine sp pM ?_
                refine sp pM ?_
                refine sa ?_
                refine cai rfl rfl rfl (disk_Read_s db bs bw 6 k S3 [] (v.crash []) r3) ?_
                refine sp pM ?_
                refine sp pX ?_
                refine sp pX ?_
                refine sp pMa ?_
                refine sp pMa ?_
                refine oNil ?_
                refine aSeq ?_
                refine aReg ?_
                refine sp pM ?_
                refine sp (pBin rfl rfl rfl rfl hre) ?_
                refine sp pM ?_
                refine gp pM ?_
                refine gp pM ?_
                refine ga ?_
                refine cai rfl rfl rfl (law03_Fill_s b (by omega)) ?_
                refine ga ?_
                refine (qCall0 rfl rfl (by decide) rfl rfl (ref01_Same _ (fill b) (by rw [hrd]; simp [fill_len]) (by simp [fill_len])) ?_).op
                rintro _ _ ⟨rfl, rfl⟩
                rw [show decide (((v.crash []).read k).1 = fill b) = true by rw [hrd]; simp]
                refine sp pK ?_
                refine sp pM ?_
                refine ga ?_
                refine (qCallV rfl rfl (by decide) rfl rfl (lents_refl _) law03_awake ?_).op
                refine sp pK ?_
                refine sp pMa ?_
                refine oNil ?_
                refine aRet ?_
                refine finIs rfl ?_
                rfl

end A
end Go.Proofs.Ytkgemkadebgeoaa
