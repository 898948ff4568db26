/- What functions of the program compute: law03 -/
import Derived.Test.YtkgemkadebgeoaaBref03e
import Derived.Test.YtkgemkadebgeoaaProg
import Derived.KernelRfl
set_option linter.unusedVariables false
set_option linter.unusedSimpArgs false
namespace Go.Proofs.Ytkgemkadebgeoaa
namespace A

theorem es_74 : elemSize Try.prog 74 = some 5 := by kernel_rfl
theorem fd_89_2 : fieldOf Try.prog 89 2 = some (2, 1, false) := by kernel_rfl
theorem fd_89_4 : fieldOf Try.prog 89 4 = some (4, 1, false) := by kernel_rfl
theorem sl_74 : isSl Try.prog 74 = true := by kernel_rfl
theorem ty_87 : tyOf Try.prog 87 = some (1, false) := by kernel_rfl
def fill (b : BS) : BS := torn b zeros
theorem fill_len (b : BS) : (fill b).length = 512 := by
  have := zeros_len
  simp only [fill, torn, List.length_append, List.length_take, List.length_drop]
  omega
def doB (a : DAct) : BS := if a.short then a.b else fill a.b
def DW.act1 (w : DW) (a : DAct) : DW × Int :=
  if a.d = 0 then w.write a.n (doB a) else if a.d = 1 then w.flush else if a.d = 2 then (w.arm a.n, 0) else if a.d = 3 then (w.crash a.tears, 0) else (w, 0)
def actOk (a : DAct) : Bool := decide (a.b.length ≤ 600) && (decide (a.tears.length ≤ 40) && a.tears.all fun t => decide (t.b.length ≤ 600))
def lightB (l : List DAct) : Bool := decide (l.length ≤ 40) && l.all actOk
theorem all_take {α : Type} {p : α → Bool} {l : List α} {i : Nat} {a : α} (h : l[i]? = some a) : (l.take (i + 1)).all p = ((l.take i).all p && p a) := by
  rw [List.take_add_one, h]
  simp [List.all_append]
theorem all_no {α : Type} {p : α → Bool} {l : List α} {i : Nat} {a : α} (h : l[i]? = some a) (hp : p a = false) : l.all p = false := by
  rw [List.all_eq_false]
  exact ⟨a, List.mem_of_getElem? h, by rw [hp]; decide⟩
theorem Rel.fit {n : Nat} {S W : List (Int × BS)} {w : DW} (r : Rel n S W w) : Fit w where
  wn := by rw [r.wn, r.sn]
  n1 := by rw [r.sn]; exact r.n1
  n2 := by rw [r.sn]; exact r.n2
  a1 := r.ar
  ws := fun b hb => by
    obtain ⟨i, hi⟩ := List.mem_iff_getElem?.1 hb
    have hl := (List.getElem?_eq_some_iff.1 hi).1
    rw [r.wn] at hl
    rw [r.wg i hl] at hi
    cases h : bGet W (i : Int) with
    | none => rw [h] at hi; cases hi; exact .inl rfl
    | some c => rw [h] at hi; cases hi; exact .inr (r.wr _ _ h).2.2
  ss := fun b hb => by
    obtain ⟨i, hi⟩ := List.mem_iff_getElem?.1 hb
    have hl := (List.getElem?_eq_some_iff.1 hi).1
    rw [r.sn] at hl
    rw [r.sg i hl] at hi
    cases hi
    exact r.s512 i
theorem Fit.getD_ws {w : DW} (f : Fit w) (i : Nat) : (w.waits.getD i []).length = 0 ∨ (w.waits.getD i []).length = 512 := by
  cases h : w.waits[i]? with
  | none => simp [List.getD, h]
  | some b => rw [getD_get h]; exact f.ws b (List.mem_of_getElem? h)
theorem Fit.getD_ss {w : DW} (f : Fit w) {i : Nat} (hi : i < w.safe.length) : (w.safe.getD i []).length = 512 := by
  rw [getD_get (List.getElem?_eq_getElem hi)]
  exact f.ss _ (List.getElem_mem hi)
theorem Fit.write {w : DW} (f : Fit w) (i : Int) (b : BS) : Fit (w.write i b).1 := by
  have ha := f.a1
  have h0 : (if 0 < w.armed ∧ w.dead = false then w.armed - 1 else w.armed) ≤ 9223372036854775807 := by split <;> omega
  unfold DW.write
  split
  · exact f
  · split
    · exact f
    · rename_i h1 h2
      split
      · exact { f with
          a1 := h0
          wn := by show (w.waits.set _ _).length = _; rw [List.length_set]; exact f.wn
          ws := fun c hc => by
            rcases List.mem_or_eq_of_mem_set hc with hc | rfl
            · exact f.ws c hc
            · right; omega }
      · exact { f with a1 := h0 }
theorem Fit.flush {w : DW} (f : Fit w) : Fit w.flush.1 := by
  have ha := f.a1
  have h0 : (if 0 < w.armed ∧ w.dead = false then w.armed - 1 else w.armed) ≤ 9223372036854775807 := by split <;> omega
  unfold DW.flush
  split
  · exact { f with
      a1 := h0
      wn := by simp
      n1 := by simp; exact f.n1
      n2 := by simp; exact f.n2
      ws := fun c hc => by rw [List.eq_of_mem_replicate hc]; exact .inl rfl
      ss := fun c hc => by
        obtain ⟨i, hi, rfl⟩ := List.mem_map.1 hc
        have hi := List.mem_range.1 hi
        unfold DW.get
        split
        · rcases f.getD_ws i with h | h
          · omega
          · exact h
        · exact f.getD_ss hi }
  · exact { f with a1 := h0 }
theorem Fit.crash {w : DW} (f : Fit w) (l : List DTear) : Fit (w.crash l) := by
  have hss : ∀ (ps : List (Nat × DTear)) (s : List BS), (∀ p ∈ ps, p.1 < w.safe.length ∧ 0 < (w.waits.getD p.1 []).length) → (∀ b ∈ s, b.length = 512) → (∀ b ∈ ps.foldl (crash1 w) s, b.length = 512) ∧ (ps.foldl (crash1 w) s).length = s.length := by
    intro ps
    induction ps with
    | nil => intro s _ h; exact ⟨h, rfl⟩
    | cons p ps ih =>
      intro s hp h
      rw [List.foldl_cons]
      obtain ⟨h1, h2⟩ := hp p (by simp)
      obtain ⟨i1, i2⟩ := ih (crash1 w s p) (fun q hq => hp q (by simp [hq])) (fun b hb => by
        unfold crash1 at hb
        split at hb
        · rcases List.mem_or_eq_of_mem_set hb with hb | rfl
          · exact h b hb
          · rcases f.getD_ws p.1 with h3 | h3
            · omega
            · exact h3
        · split at hb
          · rcases List.mem_or_eq_of_mem_set hb with hb | rfl
            · exact h b hb
            · have := f.getD_ss h1
              simp only [torn, List.length_append, List.length_take, List.length_drop]
              omega
          · exact h b hb)
      exact ⟨i1, by rw [i2, crash1_len]⟩
  have hz : ∀ p ∈ w.waiting.zip l, p.1 < w.safe.length ∧ 0 < (w.waits.getD p.1 []).length := fun p hp => by
    have hm := (List.of_mem_zip hp).1
    obtain ⟨k, hk⟩ := List.mem_iff_getElem?.1 hm
    have := waiting_lt hk
    rw [f.wn] at this
    exact this
  obtain ⟨h1, h2⟩ := hss _ w.safe hz f.ss
  exact
    { wn := by show (List.replicate w.safe.length _).length = (List.foldl (crash1 w) w.safe (w.waiting.zip l)).length; rw [h2]; simp
      n1 := by show 1 ≤ (List.foldl (crash1 w) w.safe (w.waiting.zip l)).length; rw [h2]; exact f.n1
      n2 := by show (List.foldl (crash1 w) w.safe (w.waiting.zip l)).length ≤ _; rw [h2]; exact f.n2
      a1 := by show (-1 : Int) ≤ _; omega
      ws := fun c hc => by rw [List.eq_of_mem_replicate hc]; exact .inl rfl
      ss := h1 }
theorem Fit.act1 {w : DW} (f : Fit w) (a : DAct) (ha : a.n ≤ 9223372036854775807) : Fit (w.act1 a).1 := by
  unfold DW.act1
  split
  · exact f.write _ _
  · split
    · exact f.flush
    · split
      · exact { f with a1 := by show (if a.n < 0 then -1 else a.n) ≤ _; split <;> omega }
      · split
        · exact f.crash _
        · exact f
theorem fit_new {n : Nat} (h1 : 1 ≤ n) (h2 : n ≤ 1024) : Fit (DW.new n) := (rel_new h1 h2).fit

/- waymarklaw03.Fill -/
set_option maxRecDepth 100000 in
set_option maxHeartbeats 400000 in
theorem law03_Fill (b : BS) (hb : b.length ≤ 1000) : Triple Try.prog 48 [.sl 1 (b.map by1)] [] (fun q h' => ∃ g c, q = .v (slV g 512 c) ∧ h' = [.sl g c 5 1 ((fill b).map by1)]) := by
  refine triple_of Try.func48 rfl (by kernel_rfl) rfl (by simp) ?_
  refine aSeq ?_
  refine aReg ?_
  refine sp pMa ?_
  refine oNil ?_
  refine aSeq ?_
  refine aReg ?_
  refine sq ?_
  refine qMake (n := 512) (zs := by1 0) rfl rfl (by decide) rfl rfl rfl rfl el_48 ze_5 rfl rfl rep_zeros (by decide) (by decide) (fun b4 => ?_)
  rw [← zeros_map]
  refine sp pMa ?_
  refine oNil ?_
  refine aSeq ?_
  refine aReg ?_
  refine sp pM ?_
  refine sp pM ?_
  refine sa ?_
  refine oCopyS rfl rfl (by decide) rfl (by repeat constructor) (by rw [List.length_map]; exact zeros_len.symm) rfl el_48 ?_
  rw [torn_map]
  refine oNil ?_
  refine aSeq ?_
  refine aReg ?_
  refine sp pM ?_
  refine sp pMa ?_
  refine oNil ?_
  refine aRet ?_
  exact ⟨_, [_], [], rfl, .cons .hd .nil, some b4, 512, rfl, rfl⟩

/- waymarklaw03.Light -/
set_option maxRecDepth 100000 in
set_option maxHeartbeats 1000000 in
theorem law03_Light (l : List DAct) (hl : l.length ≤ 9223372036854775807) : Triple Try.prog 41 [.sl 5 (l.map dactC)] [] (fun q h' => q = .v (.bool (lightB l)) ∧ h' = []) := by
  refine triple_of Try.func41 rfl (by kernel_rfl) rfl (by simp) ?_
  refine aSeq ?_
  refine aReg ?_
  refine sp pMa ?_
  refine oNil ?_
  refine aSeq ?_
  refine aSeq ?_
  refine aReg ?_
  refine sp pMa ?_
  refine oNil ?_
  refine aBlock ?_
  refine aLoopI (α := Nat) (fun i => i ≤ l.length ∧ i ≤ 41 ∧ (l.take i).all actOk = true) (fun i => ([(0, .sl 5 (l.map dactC)), (3, .int i)], [])) (fun i => l.length - i) 0 ?_ ?_ ?_
  · skip
    exact ⟨by omega, by omega, rfl⟩
  · skip
    exact weak_sub ⟨rfl, rfl, trivial⟩ .nil
  · rintro i ⟨hi, hi2, hv⟩
    skip
    refine aSeq ?_
    refine aSeq ?_
    refine aReg ?_
    refine sp pM ?_
    refine sp pM ?_
    refine sp (by first | exact pLm sl_74 | exact pLs sl_74 | exact pLv sl_74) ?_
    refine sp pB ?_
    refine sp pM ?_
    refine oSplitDec 9 rfl (fun c9 => ?_) (fun c9 => ?_)
    · skip
      refine gp pM ?_
      refine gp pB ?_
      refine sp pK ?_
      refine oNil ?_
      refine aCondDec rfl (fun c12 => ?_) (fun c12 => ?_)
      · skip
        refine aSkip ?_
        refine aSeq ?_
        refine aBlock ?_
        refine aSeq ?_
        refine aSeq ?_
        obtain ⟨a, ha⟩ : ∃ a, l[i]? = some a := ⟨_, List.getElem?_eq_getElem (by omega)⟩
        refine aReg ?_
        refine sp pM ?_
        refine sp pM ?_
        refine sp (pIdxS rfl rfl rfl es_74 (by omega) (map_get1 (f := dactC) ha)) ?_
        refine sp (by first | exact pFb fd_89_2 | exact pFs fd_89_2) ?_
        refine sr (by first | exact rS1 ty_48 | exact rB1 ty_48) ?_
        refine sp (by first | exact pLm sl_48 | exact pLs sl_48 | exact pLv sl_48) ?_
        refine sp pB ?_
        refine sp pM ?_
        refine oSplitDec 22 rfl (fun c22 => ?_) (fun c22 => ?_)
        · skip
          refine gf ?_
          refine gf ?_
          refine gf ?_
          refine gf ?_
          refine gf ?_
          refine gf ?_
          refine gf ?_
          refine sp pK ?_
          refine oNil ?_
          refine aCondT rfl ?_
          refine aSeq ?_
          refine aReg ?_
          refine sp pMa ?_
          refine oNil ?_
          refine aRet ?_
          refine ⟨_, [], _, rfl, .nil, ?_, rfl⟩
          have hna : actOk a = false := by
            rw [actOk]
            first | (rw [decide_eq_false (by omega)]; rfl) | (rw [decide_eq_false (p := a.tears.length ≤ 40) (by omega), Bool.false_and, Bool.and_false])
          rw [lightB, all_no ha hna, Bool.and_false]
          rfl
        · skip
          refine gp pM ?_
          refine gp pM ?_
          refine gp (pIdxS rfl rfl rfl es_74 (by omega) (map_get1 (f := dactC) ha)) ?_
          refine gp (by first | exact pFb fd_89_4 | exact pFs fd_89_4) ?_
          refine gr (by first | exact rS1 ty_87 | exact rB1 ty_87) ?_
          refine gp (by first | exact pLm sl_87 | exact pLs sl_87 | exact pLv sl_87) ?_
          refine gp pB ?_
          refine sp pK ?_
          refine oNil ?_
          refine aCondDec rfl (fun c30 => ?_) (fun c30 => ?_)
          · skip
            refine aSeq ?_
            refine aReg ?_
            refine sp pMa ?_
            refine oNil ?_
            refine aRet ?_
            refine ⟨_, [], _, rfl, .nil, ?_, rfl⟩
            have hna : actOk a = false := by
              rw [actOk]
              first | (rw [decide_eq_false (by omega)]; rfl) | (rw [decide_eq_false (p := a.tears.length ≤ 40) (by omega), Bool.false_and, Bool.and_false])
            rw [lightB, all_no ha hna, Bool.and_false]
            rfl
          · skip
            refine aSkip ?_
            refine aSeq ?_
            refine aReg ?_
            refine sp pMa ?_
            refine oNil ?_
            refine aBlock ?_
            refine aLoopI (α := Nat) (fun k => k ≤ a.tears.length ∧ (a.tears.take k).all (fun t => decide (t.b.length ≤ 600)) = true) (fun k => ([(0, .sl 5 (l.map dactC)), (3, .int i), (4, .int k)], [])) (fun k => a.tears.length - k) 0 ?_ ?_ ?_
            · skip
              exact ⟨by omega, rfl⟩
            · skip
              exact weak_sub ⟨rfl, rfl, rfl, trivial⟩ .nil
            · rintro k ⟨hk, hu⟩
              skip
              refine aSeq ?_
              refine aSeq ?_
              refine aReg ?_
              refine sp pM ?_
              refine sp pM ?_
              refine sp pM ?_
              refine sp (pIdxS rfl rfl rfl es_74 (by omega) (map_get1 (f := dactC) ha)) ?_
              refine sp (by first | exact pFb fd_89_4 | exact pFs fd_89_4) ?_
              refine sr (by first | exact rS1 ty_87 | exact rB1 ty_87) ?_
              refine sp (by first | exact pLm sl_87 | exact pLs sl_87 | exact pLv sl_87) ?_
              refine sp pB ?_
              refine oNil ?_
              refine aCondDec rfl (fun c38 => ?_) (fun c38 => ?_)
              · skip
                refine aSkip ?_
                refine aSeq ?_
                refine aBlock ?_
                refine aSeq ?_
                obtain ⟨t, ht⟩ : ∃ t, a.tears[k]? = some t := ⟨_, List.getElem?_eq_getElem (by omega)⟩
                refine aReg ?_
                refine sp pM ?_
                refine sp pM ?_
                refine sp (pIdxS rfl rfl rfl es_74 (by omega) (map_get1 (f := dactC) ha)) ?_
                refine sp (by first | exact pFb fd_89_4 | exact pFs fd_89_4) ?_
                refine sr (by first | exact rS1 ty_87 | exact rB1 ty_87) ?_
                refine sp pM ?_
                refine sp (pIdxS rfl rfl rfl es_87 (by omega) (map_get1 (f := tearC) ht)) ?_
                refine sp (by first | exact pFb fd_101_1 | exact pFs fd_101_1) ?_
                refine sr (by first | exact rS1 ty_48 | exact rB1 ty_48) ?_
                refine sp (by first | exact pLm sl_48 | exact pLs sl_48 | exact pLv sl_48) ?_
                refine sp pB ?_
                refine oNil ?_
                refine aCondDec rfl (fun c51 => ?_) (fun c51 => ?_)
                · skip
                  refine aSeq ?_
                  refine aReg ?_
                  refine sp pMa ?_
                  refine oNil ?_
                  refine aRet ?_
                  refine ⟨_, [], _, rfl, .nil, ?_, rfl⟩
                  have hna : actOk a = false := by
                    rw [actOk, all_no (p := fun t : DTear => decide (t.b.length ≤ 600)) ht (decide_eq_false (by omega)), Bool.and_false, Bool.and_false]
                  rw [lightB, all_no ha hna, Bool.and_false]
                  rfl
                · skip
                  refine aSkip ?_
                  refine aReg ?_
                  refine sp pM ?_
                  refine sp pAd ?_
                  refine sp pMa ?_
                  refine oNil ?_
                  refine ⟨k + 1, ⟨by omega, ?_⟩, by show a.tears.length - (k + 1) < a.tears.length - k; omega, weak_sub ⟨rfl, rfl, gInt rfl (by simp), trivial⟩ .nil⟩
                  rw [all_take ht, hu, decide_eq_true (by omega)]
                  rfl
              · skip
                refine aExit rfl ?_
                refine aReg ?_
                refine sp pM ?_
                refine sp pAd ?_
                refine sp pMa ?_
                refine oNil ?_
                refine ⟨i + 1, ⟨by omega, by omega, ?_⟩, by show l.length - (i + 1) < l.length - i; omega, weak_sub ⟨rfl, gInt rfl (by simp), trivial⟩ .nil⟩
                rw [all_take ha, hv, actOk, decide_eq_true (by omega), decide_eq_true (by omega)]
                rw [List.take_of_length_le (by omega)] at hu
                rw [hu]
                rfl
      · skip
        refine aExit rfl ?_
        refine aSeq ?_
        refine aReg ?_
        refine sp pM ?_
        refine sp (by first | exact pLm sl_74 | exact pLs sl_74 | exact pLv sl_74) ?_
        refine sp pB ?_
        refine sp pMa ?_
        refine oNil ?_
        refine aRet ?_
        refine ⟨_, [], _, rfl, .nil, ?_, rfl⟩
        show AV.v (.bool (decide ((l.length : Int) ≤ 40))) = _
        by_cases h40 : l.length ≤ 40
        · rw [List.take_of_length_le (by omega)] at hv
          rw [lightB, hv, decide_eq_true h40, decide_eq_true (by omega)]
          rfl
        · rw [lightB, decide_eq_false h40, decide_eq_false (by omega)]
          rfl
    · skip
      refine gf ?_
      refine gf ?_
      refine sp pK ?_
      refine oNil ?_
      refine aCondF rfl ?_
      refine aExit rfl ?_
      refine aSeq ?_
      refine aReg ?_
      refine sp pM ?_
      refine sp (by first | exact pLm sl_74 | exact pLs sl_74 | exact pLv sl_74) ?_
      refine sp pB ?_
      refine sp pMa ?_
      refine oNil ?_
      refine aRet ?_
      refine ⟨_, [], _, rfl, .nil, ?_, rfl⟩
      show AV.v (.bool (decide ((l.length : Int) ≤ 40))) = _
      by_cases h40 : l.length ≤ 40
      · rw [List.take_of_length_le (by omega)] at hv
        rw [lightB, hv, decide_eq_true h40, decide_eq_true (by omega)]
        rfl
      · rw [lightB, decide_eq_false h40, decide_eq_false (by omega)]
        rfl

end A
end Go.Proofs.Ytkgemkadebgeoaa
