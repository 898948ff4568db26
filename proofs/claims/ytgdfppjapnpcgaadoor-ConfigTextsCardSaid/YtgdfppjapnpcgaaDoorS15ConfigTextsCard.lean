/- Texts that ConfigTextsCard's proof rests on, part 16. -/
import Derived.KernelRfl
import Derived.Test.YtgdfppjapnpcgaaDoorProg
import Derived.Test.YtgdfppjapnpcgaaDoorS14ConfigTextsCard
set_option linter.unusedVariables false
set_option linter.unusedSimpArgs false
namespace Go.Proofs.YtgdfppjapnpcgaaDoor
namespace A
theorem fd_38_2 : fieldOf Tryd.prog 38 2 = some (2, 1, false) := by kernel_rfl
theorem ty_4 : tyOf Tryd.prog 4 = some (1, false) := by kernel_rfl
theorem us_60 : Tryd.prog.underlying 60 = some (.slice 39) := by kernel_rfl
theorem ze_39 : zeroOf Tryd.prog 39 = some (.slice none 0 0) := by kernel_rfl
open Go.Lib (itoa join)
theorem may_bounds {n s : Int} {l : List Wi} (h : mayP n s l = true) : 1 ≤ n ∧ n ≤ 64 ∧ 6 ≤ s ∧ s ≤ 1024 ∧ ∀ w ∈ l, WOk w := by
 unfold mayP at h
 simp only [Bool.and_eq_true, decide_eq_true_eq] at h
 obtain ⟨⟨h1, h2, h3, h4, h5⟩, _⟩ := h
 exact ⟨h1, h2, h3, h4, (wires_spec h5).1⟩
theorem line_len {w : Wi} (h : WOk w) : (lineW w).length ≤ 150 := by
 unfold WOk at h
 have i1 := itoa_len (n := w.a) (by omega) (by omega)
 have i2 := itoa_len (n := w.b) (by omega) (by omega)
 have i3 := itoa_len (n := w.ca) (by omega) (by omega)
 have i4 := itoa_len (n := w.cb) (by omega) (by omega)
 have h5 : (howS w.u).length ≤ 21 := by unfold howS; split <;> decide
 have := join_len (wordsW w) spS 21 (fun x hx => by
   unfold wordsW at hx
   simp only [List.mem_cons, List.not_mem_nil, or_false] at hx
   rcases hx with rfl | rfl | rfl | rfl | rfl | rfl <;> first | assumption | decide)
 unfold lineW
 have e1 : (wordsW w).length = 6 := rfl
 have e2 : spS.length = 1 := rfl
 rw [e1, e2] at this
 omega
theorem text_len {n s : Int} {l : List Wi} (h : mayP n s l = true) : (join (linesP n s l) nlS).length ≤ (l.length + 2) * 151 := by
 obtain ⟨h1, h2, h3, h4, h5⟩ := may_bounds h
 have i1 := itoa_len (n := n) (by omega) (by omega)
 have i2 := itoa_len (n := s) (by omega) (by omega)
 have := join_len (linesP n s l) nlS 150 (fun x hx => by
   unfold linesP at hx
   rcases List.mem_cons.1 hx with rfl | hx
   ·rw [List.length_append]; simp only [List.length_cons, List.length_nil]; omega
   ·rcases List.mem_cons.1 hx with rfl | hx
    ·rw [List.length_append]; simp only [List.length_cons, List.length_nil]; omega
    ·obtain ⟨w, hw, rfl⟩ := List.mem_map.1 hx
     exact line_len (h5 w hw))
 have e1 : (linesP n s l).length = l.length + 2 := by unfold linesP; simp
 have e2 : nlS.length = 1 := rfl
 rw [e1, e2] at this
 omega
theorem conf_nums_s {l : List Int} (G : Gl) (hl : l.length ≤ 1000) (hb : ∀ x ∈ l, -9223372036854775808 ≤ x ∧ x ≤ 9223372036854775807) : Triple Tryd.prog 20 [.sl 1 (l.map intA)] [.know 1 (powO G.tp G.zp)] (Is (.sl 1 ((l.map itoa).map strC)) [.know 1 (powO G.tp G.zp)]) := (conf_nums G hl hb).settle
/- config.Text -/
def conf_Text_r7_T : Bool × List (List Nat × List Nat) := (true, [([], []), ([], []), ([1], [1]), ([], []), ([3], [3]), ([2, 4], [2, 4]), ([5], [5]), ([], []), ([7], [7]), ([8, 6], [8]), ([9], [9]), ([], []), ([11], [11]), ([], []), ([13], [13]), ([12, 14], [12, 14]), ([15, 9], [15]), ([0, 6, 10, 16], [0, 6, 10, 16]), ([17, 16], [17]), ([18, 18, 0, 1, 2, 3, 4, 5, 6, 7, 8, 9, 10, 11, 12, 13, 14, 15, 16, 17, 18], [18])])
def conf_Text_r7_B : List Nat := [0, 0, 2, 0, 8, 30, 62, 0, 128, 510, 1022, 0, 2048, 0, 8192, 30720, 64510, 131071, 262143, 524287]
theorem conf_Text_r7_t : Go.Proofs.YtgdfppjapnpcgaaDoorW.PrintLast.rtab .any (Go.Proofs.YtgdfppjapnpcgaaDoorW.PrintLast.opsOf Tryd.f8 7) = conf_Text_r7_T := by kernel_rfl
theorem conf_Text_r7_b : Go.Proofs.YtgdfppjapnpcgaaDoorW.PrintLast.waitsOk conf_Text_r7_T.2 conf_Text_r7_B = true := by kernel_rfl
set_option maxRecDepth 100000 in
set_option maxHeartbeats 4000000 in
theorem conf_Text {n s : Int} {l : List Wi} (G : Gl) (hl : l.length ≤ 100000) : Triple Tryd.prog 8 [.int n, .int s, .sl 5 (l.map wirC)] [.know 1 (powO G.tp G.zp)] (Is (.tup [strA (textE n s l), .int (if mayP n s l then 0 else 1)]) [.know 1 (powO G.tp G.zp)]) := by
 refine triple_of Tryd.func8 rfl (by kernel_rfl) rfl (by simp) ?_
 refine aSeq ?_
 refine aReg ?_
 refine sp pMa ?_
 refine sp pMa ?_
 refine oNil ?_
 refine aSeq ?_
 refine aSeq ?_
 refine aReg ?_
 refine sp pM ?_
 refine sp pM ?_
 refine sp pM ?_
 refine sq ?_
 refine cv rfl rfl rfl (lents_refl _) (conf_may (n := n) (s := s) (l := l) (by omega)) ?_
 refine sp pNo ?_
 refine oNil ?_
 refine aCondNot rfl (fun c16 => ?_) (fun c16 => ?_)
 ·skip
  refine aSeq ?_
  refine aReg ?_
  refine sp pMa ?_
  refine sp pMa ?_
  refine oNil ?_
  refine aRet ?_
  refine finIs rfl ?_
  have hm : mayP n s l = false := by cases hm : mayP n s l <;> simp_all
  rw [show textE n s l = [] by unfold textE; rw [hm]; rfl, hm]
  rfl
 ·skip
  refine aSkip ?_
  refine aSeq ?_
  have hm : mayP n s l = true := by cases hm : mayP n s l <;> simp_all
  obtain ⟨m1, m2, m3, m4, m5⟩ := may_bounds hm
  have i1 := itoa_len (n := n) (by omega) (by omega)
  have i2 := itoa_len (n := s) (by omega) (by omega)
  have ht := text_len hm
  refine aReg ?_
  refine sp pM ?_
  refine sa ?_
  refine cai rfl rfl rfl (str_Itoa (n := n) G (by omega) (by omega)) ?_
  refine sp pCat ?_
  refine sp pM ?_
  refine sa ?_
  refine cai rfl rfl rfl (str_Itoa (n := s) G (by omega) (by omega)) ?_
  refine sp pCat ?_
  refine sq ?_
  refine qLit (l := [_, _]) rfl rfl (by decide) us_39 ty_9 ze_9 rfl (by decide) (by decide) rfl rfl rfl (fun b23 => ?_)
  refine sp pMa ?_
  refine oNil ?_
  refine aSeq ?_
  refine aSeq ?_
  refine aReg ?_
  refine sp pM ?_
  refine sp (by first | exact pLm sl_22 | exact pLs sl_22) ?_
  refine sp pM ?_
  refine oNil ?_
  refine aBlock ?_
  refine loopF (α := Nat × List SBs × Option Nat × Nat) (kept := [(24, _), (25, _)]) (fun (i, out, g, c) => i ≤ l.length ∧ out = linesP n s (l.take i)) (fun (i, out, g, c) => [(26, .int i), (8, .v (slV g out.length c))]) (fun (i, out, g, c) => [.sl g c 9 1 (out.map strC)]) (fun (i, out, g, c) => l.length - i) (0, linesP n s [], _, _) ?_ ⟨gInt rfl (by first | rfl | omega | simp), gLen rfl (by first | rfl | simp | (simp; omega)), rfl, rfl, trivial⟩ (by repeat constructor) ?_
  ·skip
   exact ⟨by omega, rfl⟩
  ·rintro ⟨i, out, g, c⟩ ⟨hi, ho⟩
   refine aSeq ?_
   refine aReg ?_
   refine sp pB ?_
   refine oNil ?_
   refine aSeq ?_
   refine aCondDec rfl (fun c27 => ?_) (fun c27 => ?_)
   ·skip
    refine aSkip ?_
    refine aSeq ?_
    refine aBlock ?_
    refine aSeq ?_
    obtain ⟨x, hx⟩ : ∃ z, l[i]? = some z := ⟨_, List.getElem?_eq_getElem (by omega)⟩
    have hxw := m5 x (List.mem_of_getElem? hx)
    have hxw2 := hxw
    unfold WOk at hxw2
    refine aReg ?_
    first | refine sp (pIx es_22) ?_ | (refine obtSN 24 26 rfl rfl (by omega) (fun x28 hx28 => ?_); refine sp (pIs es_22 hx28) ?_) | (refine obtS 24 26 rfl rfl (by omega) (by omega) (fun x28 hx28 => ?_); refine sp (pIs es_22 hx28) ?_) | refine sp (pIo es_22) ?_
    refine sr (by first | exact rSW ty_38 rfl | exact rSA ty_38) ?_
    refine sq ?_
    refine qAlloc rfl rfl (by decide) ze_38 rfl (fun b10 => ?_)
    refine sa ?_
    refine oStW rfl rfl rfl rfl (by repeat constructor) ty_38 ?_
    refine oNil ?_
    refine cutF (α := Option Nat × Nat) (kept := [(8, _), (24, _), (25, _), (26, _)]) (H0 := []) (fun (g2, c2) => True) (fun (g2, c2) => [(11, .v (slV g2 (wordsW x).length c2))]) (fun (g2, c2) => [.sl g2 c2 9 1 ((wordsW x).map strC)]) ⟨rfl, rfl, rfl, rfl, trivial⟩ (by repeat constructor) ?_ ?_
    ·skip
     refine aDrawS (h1 := [.box b10 _]) conf_Text_r7_t conf_Text_r7_b [] 20 #[false, false, false, false, false, false, false, false, false, false, false, false, false, false, false, false, false, false, false, false] (by kernel_rfl) rfl rfl (.cons (by repeat constructor) .nil) (fun HT => ?_)
     refine ep HT 1 rfl (pFb fd_38_0) ?_
     refine er HT 2 rfl (rB1 ty_3) ?_
     refine ep HT 3 rfl (pFb fd_38_1) ?_
     refine er HT 4 rfl (rB1 ty_3) ?_
     refine ep HT 7 rfl (pFb fd_38_2) ?_
     refine er HT 8 rfl (rB1 ty_4) ?_
     refine ep HT 11 rfl (pFb fd_38_3) ?_
     refine er HT 12 rfl (rB1 ty_3) ?_
     refine ep HT 13 rfl (pFb fd_38_4) ?_
     refine er HT 14 rfl (rB1 ty_3) ?_
     refine eThreeS (i := 0) (j := 5) (k := 15) #[true, true, true, true, true, false, false, true, true, false, false, true, true, true, true, false, false, false, false, false] #[false, true, true, true, true, true, false, true, true, false, false, true, true, true, true, false, false, false, false, false] #[false, true, true, true, true, false, false, true, true, false, false, true, true, true, true, true, false, false, false, false] rfl rfl rfl (HT.three (by kernel_rfl)) (by decide) (by decide) (by decide) ?_ ?_ ?_
     ·skip
      refine stQ (wantN rfl) (fun t ht => by cases ht <;> decide) ?_
      refine qLit (l := [_]) rfl rfl (by decide) us_39 ty_9 ze_9 rfl (by decide) (by decide) rfl rfl rfl (fun b30 => ?_)
      refine undel (d := 30) rfl ?_
      refine eWeak (weak_settle (k := 30) rfl (by repeat constructor) (by first | (simp; done) | rfl)) (fun b hb => by simp [owns, HA.own] at hb ⊢; first | (rcases hb with h | h | h | h <;> simp [h]; done) | (rcases hb with h | h | h <;> simp [h]; done) | (rcases hb with h | h <;> simp [h]; done) | (simp [hb]; done)) ?_
      refine eTwoS (i := 5) (j := 15) #[true, true, true, true, true, true, false, true, true, false, false, true, true, true, true, false, false, false, false, false] #[true, true, true, true, true, false, false, true, true, false, false, true, true, true, true, true, false, false, false, false] rfl rfl (HT.two (by kernel_rfl)) (by decide) (by decide) ?_ ?_
      ·skip
       refine stQ (wantN rfl) (fun t ht => by cases ht <;> decide) ?_
       refine qLit (l := [_, _]) rfl rfl (by decide) us_62 ty_3 ze_3 rfl (by decide) (by decide) rfl rfl rfl (fun b35 => ?_)
       refine undel (d := 35) rfl ?_
       refine eWeak (weak_settle (k := 35) rfl (by repeat constructor) (by first | (simp; done) | rfl)) (fun b hb => by simp [owns, HA.own] at hb ⊢; first | (rcases hb with h | h | h | h <;> simp [h]; done) | (rcases hb with h | h | h <;> simp [h]; done) | (rcases hb with h | h <;> simp [h]; done) | (simp [hb]; done)) ?_
       refine eTwoS (i := 6) (j := 15) #[true, true, true, true, true, true, true, true, true, false, false, true, true, true, true, false, false, false, false, false] #[true, true, true, true, true, true, false, true, true, false, false, true, true, true, true, true, false, false, false, false] rfl rfl (HT.two (by kernel_rfl)) (by decide) (by decide) ?_ ?_
       ·skip
        refine stA (hx := [.know 1 (powO G.tp G.zp)]) (wantN rfl) (fun t ht => by cases ht <;> decide) (.cons (by repeat constructor) .nil) (by repeat constructor) ?_
        refine cai rfl rfl rfl (conf_nums_s (l := [x.a, x.b]) G (by simp) (fun z hz => by simp only [List.mem_cons, List.not_mem_nil, or_false] at hz; rcases hz with rfl | rfl <;> omega)) ?_
        refine undel (d := 36) rfl ?_
        try dsimp only [List.cons_append, List.nil_append]
        refine eTwoS (i := 9) (j := 15) #[true, true, true, true, true, true, true, true, true, true, false, true, true, true, true, false, false, false, false, false] #[true, true, true, true, true, true, true, true, true, false, false, true, true, true, true, true, false, false, false, false] rfl rfl (HT.two (by kernel_rfl)) (by decide) (by decide) ?_ ?_
        ·skip
         refine stQ (wantN rfl) (fun t ht => by cases ht <;> decide) ?_
         refine cv rfl rfl rfl (lents_refl _) (conf_how (u := x.u)) ?_
         refine undel (d := 39) rfl ?_
         refine eTwoS (i := 10) (j := 15) #[true, true, true, true, true, true, true, true, true, true, true, true, true, true, true, false, false, false, false, false] #[true, true, true, true, true, true, true, true, true, true, false, true, true, true, true, true, false, false, false, false] rfl rfl (HT.two (by kernel_rfl)) (by decide) (by decide) ?_ ?_
         ·skip
          refine stQ (wantN rfl) (fun t ht => by cases ht <;> decide) ?_
          refine qLit (l := [_]) rfl rfl (by decide) us_39 ty_9 ze_9 rfl (by decide) (by decide) rfl rfl rfl (fun b40 => ?_)
          refine undel (d := 40) rfl ?_
          refine eWeak (weak_settle (k := 40) rfl (by repeat constructor) (by first | (simp; done) | rfl)) (fun b hb => by simp [owns, HA.own] at hb ⊢; first | (rcases hb with h | h | h | h <;> simp [h]; done) | (rcases hb with h | h | h <;> simp [h]; done) | (rcases hb with h | h <;> simp [h]; done) | (simp [hb]; done)) ?_
          refine e1 HT 15 rfl ?_
          refine qLit (l := [_, _]) rfl rfl (by decide) us_62 ty_3 ze_3 rfl (by decide) (by decide) rfl rfl rfl (fun b45 => ?_)
          refine eWeak (weak_settle (k := 45) rfl (by repeat constructor) (by first | (simp; done) | rfl)) (fun b hb => by simp [owns, HA.own] at hb ⊢; first | (rcases hb with h | h | h | h <;> simp [h]; done) | (rcases hb with h | h | h <;> simp [h]; done) | (rcases hb with h | h <;> simp [h]; done) | (simp [hb]; done)) ?_
          refine eOneS (i := 16) #[true, true, true, true, true, true, true, true, true, true, true, true, true, true, true, true, true, false, false, false] rfl (HT.one (by kernel_rfl)) (by decide) ?_
          ·skip
           refine stA (hx := [.know 1 (powO G.tp G.zp)]) (wantN rfl) (fun t ht => by cases ht <;> decide) (.cons (by repeat constructor) .nil) (by repeat constructor) ?_
           refine cai rfl rfl rfl (conf_nums_s (l := [x.ca, x.cb]) G (by simp) (fun z hz => by simp only [List.mem_cons, List.not_mem_nil, or_false] at hz; rcases hz with rfl | rfl <;> omega)) ?_
           refine undel (d := 46) rfl ?_
           try dsimp only [List.cons_append, List.nil_append]
           refine e1 HT 17 rfl ?_
           refine qLit (l := [_, _, _, _]) rfl rfl (by decide) us_60 ty_39 ze_39 rfl (by decide) (by decide) rfl rfl rfl (fun b47 => ?_)
           refine eWeak (weak_settle (k := 47) rfl (by repeat constructor) (by first | (simp; done) | rfl)) (fun b hb => by simp [owns, HA.own] at hb ⊢; first | (rcases hb with h | h | h | h <;> simp [h]; done) | (rcases hb with h | h | h <;> simp [h]; done) | (rcases hb with h | h <;> simp [h]; done) | (simp [hb]; done)) ?_
           refine eOneS (i := 18) #[true, true, true, true, true, true, true, true, true, true, true, true, true, true, true, true, true, true, true, false] rfl (HT.one (by kernel_rfl)) (by decide) ?_
           ·skip
            refine stA (hx := []) (wantN rfl) (fun t ht => by cases ht <;> decide) .nil (by repeat constructor) ?_
            first | refine coM rfl rfl rfl (concat_S (l := [[[119, 105, 114, 101]], [itoa x.a, itoa x.b], [howS x.u], [itoa x.ca, itoa x.cb]]) (by simp) (by simp)) (fun g48 k48 => ?_) | refine co rfl rfl rfl (concat_S (l := [[[119, 105, 114, 101]], [itoa x.a, itoa x.b], [howS x.u], [itoa x.ca, itoa x.cb]]) (by simp) (by simp)) (fun g48 k48 => ?_)
            refine undel (d := 48) rfl ?_
            try dsimp only [List.cons_append, List.nil_append]
            refine ef HT 19 rfl pMa ?_
            refine eE HT ?_
            clear HT
            refine ⟨(_, _), ?_, ⟨gLen rfl (by first | rfl | simp | (simp; omega)), rfl, rfl, rfl, rfl, trivial⟩, _, (by repeat constructor)⟩
            trivial
         ·skip
          refine stQ (wantN rfl) (fun t ht => by cases ht <;> decide) ?_
          refine qLit (l := [_, _]) rfl rfl (by decide) us_62 ty_3 ze_3 rfl (by decide) (by decide) rfl rfl rfl (fun b45 => ?_)
          refine undel (d := 45) rfl ?_
          refine eWeak (weak_settle (k := 45) rfl (by repeat constructor) (by first | (simp; done) | rfl)) (fun b hb => by simp [owns, HA.own] at hb ⊢; first | (rcases hb with h | h | h | h <;> simp [h]; done) | (rcases hb with h | h | h <;> simp [h]; done) | (rcases hb with h | h <;> simp [h]; done) | (simp [hb]; done)) ?_
          refine eTwoS (i := 10) (j := 16) #[true, true, true, true, true, true, true, true, true, true, true, true, true, true, true, true, false, false, false, false] #[true, true, true, true, true, true, true, true, true, true, false, true, true, true, true, true, true, false, false, false] rfl rfl (HT.two (by kernel_rfl)) (by decide) (by decide) ?_ ?_
          ·skip
           refine stQ (wantN rfl) (fun t ht => by cases ht <;> decide) ?_
           refine qLit (l := [_]) rfl rfl (by decide) us_39 ty_9 ze_9 rfl (by decide) (by decide) rfl rfl rfl (fun b40 => ?_)
           refine undel (d := 40) rfl ?_
           refine eWeak (weak_settle (k := 40) rfl (by repeat constructor) (by first | (simp; done) | rfl)) (fun b hb => by simp [owns, HA.own] at hb ⊢; first | (rcases hb with h | h | h | h <;> simp [h]; done) | (rcases hb with h | h | h <;> simp [h]; done) | (rcases hb with h | h <;> simp [h]; done) | (simp [hb]; done)) ?_
           refine eOneS (i := 16) #[true, true, true, true, true, true, true, true, true, true, true, true, true, true, true, true, true, false, false, false] rfl (HT.one (by kernel_rfl)) (by decide) ?_
           ·skip
            refine stA (hx := [.know 1 (powO G.tp G.zp)]) (wantN rfl) (fun t ht => by cases ht <;> decide) (.cons (by repeat constructor) .nil) (by repeat constructor) ?_
            refine cai rfl rfl rfl (conf_nums_s (l := [x.ca, x.cb]) G (by simp) (fun z hz => by simp only [List.mem_cons, List.not_mem_nil, or_false] at hz; rcases hz with rfl | rfl <;> omega)) ?_
            refine undel (d := 46) rfl ?_
            try dsimp only [List.cons_append, List.nil_append]
            refine e1 HT 17 rfl ?_
            refine qLit (l := [_, _, _, _]) rfl rfl (by decide) us_60 ty_39 ze_39 rfl (by decide) (by decide) rfl rfl rfl (fun b47 => ?_)
            refine eWeak (weak_settle (k := 47) rfl (by repeat constructor) (by first | (simp; done) | rfl)) (fun b hb => by simp [owns, HA.own] at hb ⊢; first | (rcases hb with h | h | h | h <;> simp [h]; done) | (rcases hb with h | h | h <;> simp [h]; done) | (rcases hb with h | h <;> simp [h]; done) | (simp [hb]; done)) ?_
            refine eOneS (i := 18) #[true, true, true, true, true, true, true, true, true, true, true, true, true, true, true, true, true, true, true, false] rfl (HT.one (by kernel_rfl)) (by decide) ?_
            ·skip
             refine stA (hx := []) (wantN rfl) (fun t ht => by cases ht <;> decide) .nil (by repeat constructor) ?_
             first | refine coM rfl rfl rfl (concat_S (l := [[[119, 105, 114, 101]], [itoa x.a, itoa x.b], [howS x.u], [itoa x.ca, itoa x.cb]]) (by simp) (by simp)) (fun g48 k48 => ?_) | refine co rfl rfl rfl (concat_S (l := [[[119, 105, 114, 101]], [itoa x.a, itoa x.b], [howS x.u], [itoa x.ca, itoa x.cb]]) (by simp) (by simp)) (fun g48 k48 => ?_)
             refine undel (d := 48) rfl ?_
             try dsimp only [List.cons_append, List.nil_append]
             refine ef HT 19 rfl pMa ?_
             refine eE HT ?_
             clear HT
             refine ⟨(_, _), ?_, ⟨gLen rfl (by first | rfl | simp | (simp; omega)), rfl, rfl, rfl, rfl, trivial⟩, _, (by repeat constructor)⟩
             trivial
          ·skip
           refine stA (hx := [.know 1 (powO G.tp G.zp)]) (wantN rfl) (fun t ht => by cases ht <;> decide) (.cons (by repeat constructor) .nil) (by repeat constructor) ?_
           refine cai rfl rfl rfl (conf_nums_s (l := [x.ca, x.cb]) G (by simp) (fun z hz => by simp only [List.mem_cons, List.not_mem_nil, or_false] at hz; rcases hz with rfl | rfl <;> omega)) ?_
           refine undel (d := 46) rfl ?_
           try dsimp only [List.cons_append, List.nil_append]
           refine e1 HT 10 rfl ?_
           refine qLit (l := [_]) rfl rfl (by decide) us_39 ty_9 ze_9 rfl (by decide) (by decide) rfl rfl rfl (fun b40 => ?_)
           refine eWeak (weak_settle (k := 40) rfl (by repeat constructor) (by first | (simp; done) | rfl)) (fun b hb => by simp [owns, HA.own] at hb ⊢; first | (rcases hb with h | h | h | h <;> simp [h]; done) | (rcases hb with h | h | h <;> simp [h]; done) | (rcases hb with h | h <;> simp [h]; done) | (simp [hb]; done)) ?_
           refine e1 HT 17 rfl ?_
           refine qLit (l := [_, _, _, _]) rfl rfl (by decide) us_60 ty_39 ze_39 rfl (by decide) (by decide) rfl rfl rfl (fun b47 => ?_)
           refine eWeak (weak_settle (k := 47) rfl (by repeat constructor) (by first | (simp; done) | rfl)) (fun b hb => by simp [owns, HA.own] at hb ⊢; first | (rcases hb with h | h | h | h <;> simp [h]; done) | (rcases hb with h | h | h <;> simp [h]; done) | (rcases hb with h | h <;> simp [h]; done) | (simp [hb]; done)) ?_
           refine eOneS (i := 18) #[true, true, true, true, true, true, true, true, true, true, true, true, true, true, true, true, true, true, true, false] rfl (HT.one (by kernel_rfl)) (by decide) ?_
           ·skip
            refine stA (hx := []) (wantN rfl) (fun t ht => by cases ht <;> decide) .nil (by repeat constructor) ?_
            first | refine coM rfl rfl rfl (concat_S (l := [[[119, 105, 114, 101]], [itoa x.a, itoa x.b], [howS x.u], [itoa x.ca, itoa x.cb]]) (by simp) (by simp)) (fun g48 k48 => ?_) | refine co rfl rfl rfl (concat_S (l := [[[119, 105, 114, 101]], [itoa x.a, itoa x.b], [howS x.u], [itoa x.ca, itoa x.cb]]) (by simp) (by simp)) (fun g48 k48 => ?_)
            refine undel (d := 48) rfl ?_
            try dsimp only [List.cons_append, List.nil_append]
            refine ef HT 19 rfl pMa ?_
            refine eE HT ?_
            clear HT
            refine ⟨(_, _), ?_, ⟨gLen rfl (by first | rfl | simp | (simp; omega)), rfl, rfl, rfl, rfl, trivial⟩, _, (by repeat constructor)⟩
            trivial
        ·skip
         refine stQ (wantN rfl) (fun t ht => by cases ht <;> decide) ?_
         refine qLit (l := [_, _]) rfl rfl (by decide) us_62 ty_3 ze_3 rfl (by decide) (by decide) rfl rfl rfl (fun b45 => ?_)
         refine undel (d := 45) rfl ?_
         refine eWeak (weak_settle (k := 45) rfl (by repeat constructor) (by first | (simp; done) | rfl)) (fun b hb => by simp [owns, HA.own] at hb ⊢; first | (rcases hb with h | h | h | h <;> simp [h]; done) | (rcases hb with h | h | h <;> simp [h]; done) | (rcases hb with h | h <;> simp [h]; done) | (simp [hb]; done)) ?_
         refine e1 HT 9 rfl ?_
         refine cv rfl rfl rfl (lents_refl _) (conf_how (u := x.u)) ?_
         refine eTwoS (i := 10) (j := 16) #[true, true, true, true, true, true, true, true, true, true, true, true, true, true, true, true, false, false, false, false] #[true, true, true, true, true, true, true, true, true, true, false, true, true, true, true, true, true, false, false, false] rfl rfl (HT.two (by kernel_rfl)) (by decide) (by decide) ?_ ?_
         ·skip
          refine stQ (wantN rfl) (fun t ht => by cases ht <;> decide) ?_
          refine qLit (l := [_]) rfl rfl (by decide) us_39 ty_9 ze_9 rfl (by decide) (by decide) rfl rfl rfl (fun b40 => ?_)
          refine undel (d := 40) rfl ?_
          refine eWeak (weak_settle (k := 40) rfl (by repeat constructor) (by first | (simp; done) | rfl)) (fun b hb => by simp [owns, HA.own] at hb ⊢; first | (rcases hb with h | h | h | h <;> simp [h]; done) | (rcases hb with h | h | h <;> simp [h]; done) | (rcases hb with h | h <;> simp [h]; done) | (simp [hb]; done)) ?_
          refine eOneS (i := 16) #[true, true, true, true, true, true, true, true, true, true, true, true, true, true, true, true, true, false, false, false] rfl (HT.one (by kernel_rfl)) (by decide) ?_
          ·skip
           refine stA (hx := [.know 1 (powO G.tp G.zp)]) (wantN rfl) (fun t ht => by cases ht <;> decide) (.cons (by repeat constructor) .nil) (by repeat constructor) ?_
           refine cai rfl rfl rfl (conf_nums_s (l := [x.ca, x.cb]) G (by simp) (fun z hz => by simp only [List.mem_cons, List.not_mem_nil, or_false] at hz; rcases hz with rfl | rfl <;> omega)) ?_
           refine undel (d := 46) rfl ?_
           try dsimp only [List.cons_append, List.nil_append]
           refine e1 HT 17 rfl ?_
           refine qLit (l := [_, _, _, _]) rfl rfl (by decide) us_60 ty_39 ze_39 rfl (by decide) (by decide) rfl rfl rfl (fun b47 => ?_)
           refine eWeak (weak_settle (k := 47) rfl (by repeat constructor) (by first | (simp; done) | rfl)) (fun b hb => by simp [owns, HA.own] at hb ⊢; first | (rcases hb with h | h | h | h <;> simp [h]; done) | (rcases hb with h | h | h <;> simp [h]; done) | (rcases hb with h | h <;> simp [h]; done) | (simp [hb]; done)) ?_
           refine eOneS (i := 18) #[true, true, true, true, true, true, true, true, true, true, true, true, true, true, true, true, true, true, true, false] rfl (HT.one (by kernel_rfl)) (by decide) ?_
           ·skip
            refine stA (hx := []) (wantN rfl) (fun t ht => by cases ht <;> decide) .nil (by repeat constructor) ?_
            first | refine coM rfl rfl rfl (concat_S (l := [[[119, 105, 114, 101]], [itoa x.a, itoa x.b], [howS x.u], [itoa x.ca, itoa x.cb]]) (by simp) (by simp)) (fun g48 k48 => ?_) | refine co rfl rfl rfl (concat_S (l := [[[119, 105, 114, 101]], [itoa x.a, itoa x.b], [howS x.u], [itoa x.ca, itoa x.cb]]) (by simp) (by simp)) (fun g48 k48 => ?_)
            refine undel (d := 48) rfl ?_
            try dsimp only [List.cons_append, List.nil_append]
            refine ef HT 19 rfl pMa ?_
            refine eE HT ?_
            clear HT
            refine ⟨(_, _), ?_, ⟨gLen rfl (by first | rfl | simp | (simp; omega)), rfl, rfl, rfl, rfl, trivial⟩, _, (by repeat constructor)⟩
            trivial
         ·skip
          refine stA (hx := [.know 1 (powO G.tp G.zp)]) (wantN rfl) (fun t ht => by cases ht <;> decide) (.cons (by repeat constructor) .nil) (by repeat constructor) ?_
          refine cai rfl rfl rfl (conf_nums_s (l := [x.ca, x.cb]) G (by simp) (fun z hz => by simp only [List.mem_cons, List.not_mem_nil, or_false] at hz; rcases hz with rfl | rfl <;> omega)) ?_
          refine undel (d := 46) rfl ?_
          try dsimp only [List.cons_append, List.nil_append]
          refine e1 HT 10 rfl ?_
          refine qLit (l := [_]) rfl rfl (by decide) us_39 ty_9 ze_9 rfl (by decide) (by decide) rfl rfl rfl (fun b40 => ?_)
          refine eWeak (weak_settle (k := 40) rfl (by repeat constructor) (by first | (simp; done) | rfl)) (fun b hb => by simp [owns, HA.own] at hb ⊢; first | (rcases hb with h | h | h | h <;> simp [h]; done) | (rcases hb with h | h | h <;> simp [h]; done) | (rcases hb with h | h <;> simp [h]; done) | (simp [hb]; done)) ?_
          refine e1 HT 17 rfl ?_
          refine qLit (l := [_, _, _, _]) rfl rfl (by decide) us_60 ty_39 ze_39 rfl (by decide) (by decide) rfl rfl rfl (fun b47 => ?_)
          refine eWeak (weak_settle (k := 47) rfl (by repeat constructor) (by first | (simp; done) | rfl)) (fun b hb => by simp [owns, HA.own] at hb ⊢; first | (rcases hb with h | h | h | h <;> simp [h]; done) | (rcases hb with h | h | h <;> simp [h]; done) | (rcases hb with h | h <;> simp [h]; done) | (simp [hb]; done)) ?_
          refine eOneS (i := 18) #[true, true, true, true, true, true, true, true, true, true, true, true, true, true, true, true, true, true, true, false] rfl (HT.one (by kernel_rfl)) (by decide) ?_
          ·skip
           refine stA (hx := []) (wantN rfl) (fun t ht => by cases ht <;> decide) .nil (by repeat constructor) ?_
           first | refine coM rfl rfl rfl (concat_S (l := [[[119, 105, 114, 101]], [itoa x.a, itoa x.b], [howS x.u], [itoa x.ca, itoa x.cb]]) (by simp) (by simp)) (fun g48 k48 => ?_) | refine co rfl rfl rfl (concat_S (l := [[[119, 105, 114, 101]], [itoa x.a, itoa x.b], [howS x.u], [itoa x.ca, itoa x.cb]]) (by simp) (by simp)) (fun g48 k48 => ?_)
           refine undel (d := 48) rfl ?_
           try dsimp only [List.cons_append, List.nil_append]
           refine ef HT 19 rfl pMa ?_
           refine eE HT ?_
           clear HT
           refine ⟨(_, _), ?_, ⟨gLen rfl (by first | rfl | simp | (simp; omega)), rfl, rfl, rfl, rfl, trivial⟩, _, (by repeat constructor)⟩
           trivial
       ·skip
        refine stQ (wantN rfl) (fun t ht => by cases ht <;> decide) ?_
        refine qLit (l := [_, _]) rfl rfl (by decide) us_62 ty_3 ze_3 rfl (by decide) (by decide) rfl rfl rfl (fun b45 => ?_)
        refine undel (d := 45) rfl ?_
        refine eWeak (weak_settle (k := 45) rfl (by repeat constructor) (by first | (simp; done) | rfl)) (fun b hb => by simp [owns, HA.own] at hb ⊢; first | (rcases hb with h | h | h | h <;> simp [h]; done) | (rcases hb with h | h | h <;> simp [h]; done) | (rcases hb with h | h <;> simp [h]; done) | (simp [hb]; done)) ?_
        refine eOneS (i := 6) #[true, true, true, true, true, true, true, true, true, false, false, true, true, true, true, true, false, false, false, false] rfl (HT.one (by kernel_rfl)) (by decide) ?_
        ·skip
         refine stA (hx := [.know 1 (powO G.tp G.zp)]) (wantN rfl) (fun t ht => by cases ht <;> decide) (.cons (by repeat constructor) .nil) (by repeat constructor) ?_
         refine cai rfl rfl rfl (conf_nums_s (l := [x.a, x.b]) G (by simp) (fun z hz => by simp only [List.mem_cons, List.not_mem_nil, or_false] at hz; rcases hz with rfl | rfl <;> omega)) ?_
         refine undel (d := 36) rfl ?_
         try dsimp only [List.cons_append, List.nil_append]
         refine e1 HT 9 rfl ?_
         refine cv rfl rfl rfl (lents_refl _) (conf_how (u := x.u)) ?_
         refine eTwoS (i := 10) (j := 16) #[true, true, true, true, true, true, true, true, true, true, true, true, true, true, true, true, false, false, false, false] #[true, true, true, true, true, true, true, true, true, true, false, true, true, true, true, true, true, false, false, false] rfl rfl (HT.two (by kernel_rfl)) (by decide) (by decide) ?_ ?_
         ·skip
          refine stQ (wantN rfl) (fun t ht => by cases ht <;> decide) ?_
          refine qLit (l := [_]) rfl rfl (by decide) us_39 ty_9 ze_9 rfl (by decide) (by decide) rfl rfl rfl (fun b40 => ?_)
          refine undel (d := 40) rfl ?_
          refine eWeak (weak_settle (k := 40) rfl (by repeat constructor) (by first | (simp; done) | rfl)) (fun b hb => by simp [owns, HA.own] at hb ⊢; first | (rcases hb with h | h | h | h <;> simp [h]; done) | (rcases hb with h | h | h <;> simp [h]; done) | (rcases hb with h | h <;> simp [h]; done) | (simp [hb]; done)) ?_
          refine eOneS (i := 16) #[true, true, true, true, true, true, true, true, true, true, true, true, true, true, true, true, true, false, false, false] rfl (HT.one (by kernel_rfl)) (by decide) ?_
          ·skip
           refine stA (hx := [.know 1 (powO G.tp G.zp)]) (wantN rfl) (fun t ht => by cases ht <;> decide) (.cons (by repeat constructor) .nil) (by repeat constructor) ?_
           refine cai rfl rfl rfl (conf_nums_s (l := [x.ca, x.cb]) G (by simp) (fun z hz => by simp only [List.mem_cons, List.not_mem_nil, or_false] at hz; rcases hz with rfl | rfl <;> omega)) ?_
           refine undel (d := 46) rfl ?_
           try dsimp only [List.cons_append, List.nil_append]
           refine e1 HT 17 rfl ?_
           refine qLit (l := [_, _, _, _]) rfl rfl (by decide) us_60 ty_39 ze_39 rfl (by decide) (by decide) rfl rfl rfl (fun b47 => ?_)
           refine eWeak (weak_settle (k := 47) rfl (by repeat constructor) (by first | (simp; done) | rfl)) (fun b hb => by simp [owns, HA.own] at hb ⊢; first | (rcases hb with h | h | h | h <;> simp [h]; done) | (rcases hb with h | h | h <;> simp [h]; done) | (rcases hb with h | h <;> simp [h]; done) | (simp [hb]; done)) ?_
           refine eOneS (i := 18) #[true, true, true, true, true, true, true, true, true, true, true, true, true, true, true, true, true, true, true, false] rfl (HT.one (by kernel_rfl)) (by decide) ?_
           ·skip
            refine stA (hx := []) (wantN rfl) (fun t ht => by cases ht <;> decide) .nil (by repeat constructor) ?_
            first | refine coM rfl rfl rfl (concat_S (l := [[[119, 105, 114, 101]], [itoa x.a, itoa x.b], [howS x.u], [itoa x.ca, itoa x.cb]]) (by simp) (by simp)) (fun g48 k48 => ?_) | refine co rfl rfl rfl (concat_S (l := [[[119, 105, 114, 101]], [itoa x.a, itoa x.b], [howS x.u], [itoa x.ca, itoa x.cb]]) (by simp) (by simp)) (fun g48 k48 => ?_)
            refine undel (d := 48) rfl ?_
            try dsimp only [List.cons_append, List.nil_append]
            refine ef HT 19 rfl pMa ?_
            refine eE HT ?_
            clear HT
            refine ⟨(_, _), ?_, ⟨gLen rfl (by first | rfl | simp | (simp; omega)), rfl, rfl, rfl, rfl, trivial⟩, _, (by repeat constructor)⟩
            trivial
         ·skip
          refine stA (hx := [.know 1 (powO G.tp G.zp)]) (wantN rfl) (fun t ht => by cases ht <;> decide) (.cons (by repeat constructor) .nil) (by repeat constructor) ?_
          refine cai rfl rfl rfl (conf_nums_s (l := [x.ca, x.cb]) G (by simp) (fun z hz => by simp only [List.mem_cons, List.not_mem_nil, or_false] at hz; rcases hz with rfl | rfl <;> omega)) ?_
          refine undel (d := 46) rfl ?_
          try dsimp only [List.cons_append, List.nil_append]
          refine e1 HT 10 rfl ?_
          refine qLit (l := [_]) rfl rfl (by decide) us_39 ty_9 ze_9 rfl (by decide) (by decide) rfl rfl rfl (fun b40 => ?_)
          refine eWeak (weak_settle (k := 40) rfl (by repeat constructor) (by first | (simp; done) | rfl)) (fun b hb => by simp [owns, HA.own] at hb ⊢; first | (rcases hb with h | h | h | h <;> simp [h]; done) | (rcases hb with h | h | h <;> simp [h]; done) | (rcases hb with h | h <;> simp [h]; done) | (simp [hb]; done)) ?_
          refine e1 HT 17 rfl ?_
          refine qLit (l := [_, _, _, _]) rfl rfl (by decide) us_60 ty_39 ze_39 rfl (by decide) (by decide) rfl rfl rfl (fun b47 => ?_)
          refine eWeak (weak_settle (k := 47) rfl (by repeat constructor) (by first | (simp; done) | rfl)) (fun b hb => by simp [owns, HA.own] at hb ⊢; first | (rcases hb with h | h | h | h <;> simp [h]; done) | (rcases hb with h | h | h <;> simp [h]; done) | (rcases hb with h | h <;> simp [h]; done) | (simp [hb]; done)) ?_
          refine eOneS (i := 18) #[true, true, true, true, true, true, true, true, true, true, true, true, true, true, true, true, true, true, true, false] rfl (HT.one (by kernel_rfl)) (by decide) ?_
          ·skip
           refine stA (hx := []) (wantN rfl) (fun t ht => by cases ht <;> decide) .nil (by repeat constructor) ?_
           first | refine coM rfl rfl rfl (concat_S (l := [[[119, 105, 114, 101]], [itoa x.a, itoa x.b], [howS x.u], [itoa x.ca, itoa x.cb]]) (by simp) (by simp)) (fun g48 k48 => ?_) | refine co rfl rfl rfl (concat_S (l := [[[119, 105, 114, 101]], [itoa x.a, itoa x.b], [howS x.u], [itoa x.ca, itoa x.cb]]) (by simp) (by simp)) (fun g48 k48 => ?_)
           refine undel (d := 48) rfl ?_
           try dsimp only [List.cons_append, List.nil_append]
           refine ef HT 19 rfl pMa ?_
           refine eE HT ?_
           clear HT
           refine ⟨(_, _), ?_, ⟨gLen rfl (by first | rfl | simp | (simp; omega)), rfl, rfl, rfl, rfl, trivial⟩, _, (by repeat constructor)⟩
           trivial
      ·skip
       refine stQ (wantN rfl) (fun t ht => by cases ht <;> decide) ?_
       refine qLit (l := [_, _]) rfl rfl (by decide) us_62 ty_3 ze_3 rfl (by decide) (by decide) rfl rfl rfl (fun b45 => ?_)
       refine undel (d := 45) rfl ?_
       refine eWeak (weak_settle (k := 45) rfl (by repeat constructor) (by first | (simp; done) | rfl)) (fun b hb => by simp [owns, HA.own] at hb ⊢; first | (rcases hb with h | h | h | h <;> simp [h]; done) | (rcases hb with h | h | h <;> simp [h]; done) | (rcases hb with h | h <;> simp [h]; done) | (simp [hb]; done)) ?_
       refine e1 HT 5 rfl ?_
       refine qLit (l := [_, _]) rfl rfl (by decide) us_62 ty_3 ze_3 rfl (by decide) (by decide) rfl rfl rfl (fun b35 => ?_)
       refine eWeak (weak_settle (k := 35) rfl (by repeat constructor) (by first | (simp; done) | rfl)) (fun b hb => by simp [owns, HA.own] at hb ⊢; first | (rcases hb with h | h | h | h <;> simp [h]; done) | (rcases hb with h | h | h <;> simp [h]; done) | (rcases hb with h | h <;> simp [h]; done) | (simp [hb]; done)) ?_
       refine eOneS (i := 6) #[true, true, true, true, true, true, true, true, true, false, false, true, true, true, true, true, false, false, false, false] rfl (HT.one (by kernel_rfl)) (by decide) ?_
       ·skip
        refine stA (hx := [.know 1 (powO G.tp G.zp)]) (wantN rfl) (fun t ht => by cases ht <;> decide) (.cons (by repeat constructor) .nil) (by repeat constructor) ?_
        refine cai rfl rfl rfl (conf_nums_s (l := [x.a, x.b]) G (by simp) (fun z hz => by simp only [List.mem_cons, List.not_mem_nil, or_false] at hz; rcases hz with rfl | rfl <;> omega)) ?_
        refine undel (d := 36) rfl ?_
        try dsimp only [List.cons_append, List.nil_append]
        refine e1 HT 9 rfl ?_
        refine cv rfl rfl rfl (lents_refl _) (conf_how (u := x.u)) ?_
        refine eTwoS (i := 10) (j := 16) #[true, true, true, true, true, true, true, true, true, true, true, true, true, true, true, true, false, false, false, false] #[true, true, true, true, true, true, true, true, true, true, false, true, true, true, true, true, true, false, false, false] rfl rfl (HT.two (by kernel_rfl)) (by decide) (by decide) ?_ ?_
        ·skip
         refine stQ (wantN rfl) (fun t ht => by cases ht <;> decide) ?_
         refine qLit (l := [_]) rfl rfl (by decide) us_39 ty_9 ze_9 rfl (by decide) (by decide) rfl rfl rfl (fun b40 => ?_)
         refine undel (d := 40) rfl ?_
         refine eWeak (weak_settle (k := 40) rfl (by repeat constructor) (by first | (simp; done) | rfl)) (fun b hb => by simp [owns, HA.own] at hb ⊢; first | (rcases hb with h | h | h | h <;> simp [h]; done) | (rcases hb with h | h | h <;> simp [h]; done) | (rcases hb with h | h <;> simp [h]; done) | (simp [hb]; done)) ?_
         refine eOneS (i := 16) #[true, true, true, true, true, true, true, true, true, true, true, true, true, true, true, true, true, false, false, false] rfl (HT.one (by kernel_rfl)) (by decide) ?_
         ·skip
          refine stA (hx := [.know 1 (powO G.tp G.zp)]) (wantN rfl) (fun t ht => by cases ht <;> decide) (.cons (by repeat constructor) .nil) (by repeat constructor) ?_
          refine cai rfl rfl rfl (conf_nums_s (l := [x.ca, x.cb]) G (by simp) (fun z hz => by simp only [List.mem_cons, List.not_mem_nil, or_false] at hz; rcases hz with rfl | rfl <;> omega)) ?_
          refine undel (d := 46) rfl ?_
          try dsimp only [List.cons_append, List.nil_append]
          refine e1 HT 17 rfl ?_
          refine qLit (l := [_, _, _, _]) rfl rfl (by decide) us_60 ty_39 ze_39 rfl (by decide) (by decide) rfl rfl rfl (fun b47 => ?_)
          refine eWeak (weak_settle (k := 47) rfl (by repeat constructor) (by first | (simp; done) | rfl)) (fun b hb => by simp [owns, HA.own] at hb ⊢; first | (rcases hb with h | h | h | h <;> simp [h]; done) | (rcases hb with h | h | h <;> simp [h]; done) | (rcases hb with h | h <;> simp [h]; done) | (simp [hb]; done)) ?_
          refine eOneS (i := 18) #[true, true, true, true, true, true, true, true, true, true, true, true, true, true, true, true, true, true, true, false] rfl (HT.one (by kernel_rfl)) (by decide) ?_
          ·skip
           refine stA (hx := []) (wantN rfl) (fun t ht => by cases ht <;> decide) .nil (by repeat constructor) ?_
           first | refine coM rfl rfl rfl (concat_S (l := [[[119, 105, 114, 101]], [itoa x.a, itoa x.b], [howS x.u], [itoa x.ca, itoa x.cb]]) (by simp) (by simp)) (fun g48 k48 => ?_) | refine co rfl rfl rfl (concat_S (l := [[[119, 105, 114, 101]], [itoa x.a, itoa x.b], [howS x.u], [itoa x.ca, itoa x.cb]]) (by simp) (by simp)) (fun g48 k48 => ?_)
           refine undel (d := 48) rfl ?_
           try dsimp only [List.cons_append, List.nil_append]
           refine ef HT 19 rfl pMa ?_
           refine eE HT ?_
           clear HT
           refine ⟨(_, _), ?_, ⟨gLen rfl (by first | rfl | simp | (simp; omega)), rfl, rfl, rfl, rfl, trivial⟩, _, (by repeat constructor)⟩
           trivial
        ·skip
         refine stA (hx := [.know 1 (powO G.tp G.zp)]) (wantN rfl) (fun t ht => by cases ht <;> decide) (.cons (by repeat constructor) .nil) (by repeat constructor) ?_
         refine cai rfl rfl rfl (conf_nums_s (l := [x.ca, x.cb]) G (by simp) (fun z hz => by simp only [List.mem_cons, List.not_mem_nil, or_false] at hz; rcases hz with rfl | rfl <;> omega)) ?_
         refine undel (d := 46) rfl ?_
         try dsimp only [List.cons_append, List.nil_append]
         refine e1 HT 10 rfl ?_
         refine qLit (l := [_]) rfl rfl (by decide) us_39 ty_9 ze_9 rfl (by decide) (by decide) rfl rfl rfl (fun b40 => ?_)
         refine eWeak (weak_settle (k := 40) rfl (by repeat constructor) (by first | (simp; done) | rfl)) (fun b hb => by simp [owns, HA.own] at hb ⊢; first | (rcases hb with h | h | h | h <;> simp [h]; done) | (rcases hb with h | h | h <;> simp [h]; done) | (rcases hb with h | h <;> simp [h]; done) | (simp [hb]; done)) ?_
         refine e1 HT 17 rfl ?_
         refine qLit (l := [_, _, _, _]) rfl rfl (by decide) us_60 ty_39 ze_39 rfl (by decide) (by decide) rfl rfl rfl (fun b47 => ?_)
         refine eWeak (weak_settle (k := 47) rfl (by repeat constructor) (by first | (simp; done) | rfl)) (fun b hb => by simp [owns, HA.own] at hb ⊢; first | (rcases hb with h | h | h | h <;> simp [h]; done) | (rcases hb with h | h | h <;> simp [h]; done) | (rcases hb with h | h <;> simp [h]; done) | (simp [hb]; done)) ?_
         refine eOneS (i := 18) #[true, true, true, true, true, true, true, true, true, true, true, true, true, true, true, true, true, true, true, false] rfl (HT.one (by kernel_rfl)) (by decide) ?_
         ·skip
          refine stA (hx := []) (wantN rfl) (fun t ht => by cases ht <;> decide) .nil (by repeat constructor) ?_
          first | refine coM rfl rfl rfl (concat_S (l := [[[119, 105, 114, 101]], [itoa x.a, itoa x.b], [howS x.u], [itoa x.ca, itoa x.cb]]) (by simp) (by simp)) (fun g48 k48 => ?_) | refine co rfl rfl rfl (concat_S (l := [[[119, 105, 114, 101]], [itoa x.a, itoa x.b], [howS x.u], [itoa x.ca, itoa x.cb]]) (by simp) (by simp)) (fun g48 k48 => ?_)
          refine undel (d := 48) rfl ?_
          try dsimp only [List.cons_append, List.nil_append]
          refine ef HT 19 rfl pMa ?_
          refine eE HT ?_
          clear HT
          refine ⟨(_, _), ?_, ⟨gLen rfl (by first | rfl | simp | (simp; omega)), rfl, rfl, rfl, rfl, trivial⟩, _, (by repeat constructor)⟩
          trivial
     ·skip
      refine stQ (wantN rfl) (fun t ht => by cases ht <;> decide) ?_
      refine qLit (l := [_, _]) rfl rfl (by decide) us_62 ty_3 ze_3 rfl (by decide) (by decide) rfl rfl rfl (fun b35 => ?_)
      refine undel (d := 35) rfl ?_
      refine eWeak (weak_settle (k := 35) rfl (by repeat constructor) (by first | (simp; done) | rfl)) (fun b hb => by simp [owns, HA.own] at hb ⊢; first | (rcases hb with h | h | h | h <;> simp [h]; done) | (rcases hb with h | h | h <;> simp [h]; done) | (rcases hb with h | h <;> simp [h]; done) | (simp [hb]; done)) ?_
      refine eThreeS (i := 0) (j := 6) (k := 15) #[true, true, true, true, true, true, false, true, true, false, false, true, true, true, true, false, false, false, false, false] #[false, true, true, true, true, true, true, true, true, false, false, true, true, true, true, false, false, false, false, false] #[false, true, true, true, true, true, false, true, true, false, false, true, true, true, true, true, false, false, false, false] rfl rfl rfl (HT.three (by kernel_rfl)) (by decide) (by decide) (by decide) ?_ ?_ ?_
      ·skip
       refine stQ (wantN rfl) (fun t ht => by cases ht <;> decide) ?_
       refine qLit (l := [_]) rfl rfl (by decide) us_39 ty_9 ze_9 rfl (by decide) (by decide) rfl rfl rfl (fun b30 => ?_)
       refine undel (d := 30) rfl ?_
       refine eWeak (weak_settle (k := 30) rfl (by repeat constructor) (by first | (simp; done) | rfl)) (fun b hb => by simp [owns, HA.own] at hb ⊢; first | (rcases hb with h | h | h | h <;> simp [h]; done) | (rcases hb with h | h | h <;> simp [h]; done) | (rcases hb with h | h <;> simp [h]; done) | (simp [hb]; done)) ?_
       refine eTwoS (i := 6) (j := 15) #[true, true, true, true, true, true, true, true, true, false, false, true, true, true, true, false, false, false, false, false] #[true, true, true, true, true, true, false, true, true, false, false, true, true, true, true, true, false, false, false, false] rfl rfl (HT.two (by kernel_rfl)) (by decide) (by decide) ?_ ?_
       ·skip
        refine stA (hx := [.know 1 (powO G.tp G.zp)]) (wantN rfl) (fun t ht => by cases ht <;> decide) (.cons (by repeat constructor) .nil) (by repeat constructor) ?_
        refine cai rfl rfl rfl (conf_nums_s (l := [x.a, x.b]) G (by simp) (fun z hz => by simp only [List.mem_cons, List.not_mem_nil, or_false] at hz; rcases hz with rfl | rfl <;> omega)) ?_
        refine undel (d := 36) rfl ?_
        try dsimp only [List.cons_append, List.nil_append]
        refine eTwoS (i := 9) (j := 15) #[true, true, true, true, true, true, true, true, true, true, false, true, true, true, true, false, false, false, false, false] #[true, true, true, true, true, true, true, true, true, false, false, true, true, true, true, true, false, false, false, false] rfl rfl (HT.two (by kernel_rfl)) (by decide) (by decide) ?_ ?_
        ·skip
         refine stQ (wantN rfl) (fun t ht => by cases ht <;> decide) ?_
         refine cv rfl rfl rfl (lents_refl _) (conf_how (u := x.u)) ?_
         refine undel (d := 39) rfl ?_
         refine eTwoS (i := 10) (j := 15) #[true, true, true, true, true, true, true, true, true, true, true, true, true, true, true, false, false, false, false, false] #[true, true, true, true, true, true, true, true, true, true, false, true, true, true, true, true, false, false, false, false] rfl rfl (HT.two (by kernel_rfl)) (by decide) (by decide) ?_ ?_
         ·skip
          refine stQ (wantN rfl) (fun t ht => by cases ht <;> decide) ?_
          refine qLit (l := [_]) rfl rfl (by decide) us_39 ty_9 ze_9 rfl (by decide) (by decide) rfl rfl rfl (fun b40 => ?_)
          refine undel (d := 40) rfl ?_
          refine eWeak (weak_settle (k := 40) rfl (by repeat constructor) (by first | (simp; done) | rfl)) (fun b hb => by simp [owns, HA.own] at hb ⊢; first | (rcases hb with h | h | h | h <;> simp [h]; done) | (rcases hb with h | h | h <;> simp [h]; done) | (rcases hb with h | h <;> simp [h]; done) | (simp [hb]; done)) ?_
          refine e1 HT 15 rfl ?_
          refine qLit (l := [_, _]) rfl rfl (by decide) us_62 ty_3 ze_3 rfl (by decide) (by decide) rfl rfl rfl (fun b45 => ?_)
          refine eWeak (weak_settle (k := 45) rfl (by repeat constructor) (by first | (simp; done) | rfl)) (fun b hb => by simp [owns, HA.own] at hb ⊢; first | (rcases hb with h | h | h | h <;> simp [h]; done) | (rcases hb with h | h | h <;> simp [h]; done) | (rcases hb with h | h <;> simp [h]; done) | (simp [hb]; done)) ?_
          refine eOneS (i := 16) #[true, true, true, true, true, true, true, true, true, true, true, true, true, true, true, true, true, false, false, false] rfl (HT.one (by kernel_rfl)) (by decide) ?_
          ·skip
           refine stA (hx := [.know 1 (powO G.tp G.zp)]) (wantN rfl) (fun t ht => by cases ht <;> decide) (.cons (by repeat constructor) .nil) (by repeat constructor) ?_
           refine cai rfl rfl rfl (conf_nums_s (l := [x.ca, x.cb]) G (by simp) (fun z hz => by simp only [List.mem_cons, List.not_mem_nil, or_false] at hz; rcases hz with rfl | rfl <;> omega)) ?_
           refine undel (d := 46) rfl ?_
           try dsimp only [List.cons_append, List.nil_append]
           refine e1 HT 17 rfl ?_
           refine qLit (l := [_, _, _, _]) rfl rfl (by decide) us_60 ty_39 ze_39 rfl (by decide) (by decide) rfl rfl rfl (fun b47 => ?_)
           refine eWeak (weak_settle (k := 47) rfl (by repeat constructor) (by first | (simp; done) | rfl)) (fun b hb => by simp [owns, HA.own] at hb ⊢; first | (rcases hb with h | h | h | h <;> simp [h]; done) | (rcases hb with h | h | h <;> simp [h]; done) | (rcases hb with h | h <;> simp [h]; done) | (simp [hb]; done)) ?_
           refine eOneS (i := 18) #[true, true, true, true, true, true, true, true, true, true, true, true, true, true, true, true, true, true, true, false] rfl (HT.one (by kernel_rfl)) (by decide) ?_
           ·skip
            refine stA (hx := []) (wantN rfl) (fun t ht => by cases ht <;> decide) .nil (by repeat constructor) ?_
            first | refine coM rfl rfl rfl (concat_S (l := [[[119, 105, 114, 101]], [itoa x.a, itoa x.b], [howS x.u], [itoa x.ca, itoa x.cb]]) (by simp) (by simp)) (fun g48 k48 => ?_) | refine co rfl rfl rfl (concat_S (l := [[[119, 105, 114, 101]], [itoa x.a, itoa x.b], [howS x.u], [itoa x.ca, itoa x.cb]]) (by simp) (by simp)) (fun g48 k48 => ?_)
            refine undel (d := 48) rfl ?_
            try dsimp only [List.cons_append, List.nil_append]
            refine ef HT 19 rfl pMa ?_
            refine eE HT ?_
            clear HT
            refine ⟨(_, _), ?_, ⟨gLen rfl (by first | rfl | simp | (simp; omega)), rfl, rfl, rfl, rfl, trivial⟩, _, (by repeat constructor)⟩
            trivial
         ·skip
          refine stQ (wantN rfl) (fun t ht => by cases ht <;> decide) ?_
          refine qLit (l := [_, _]) rfl rfl (by decide) us_62 ty_3 ze_3 rfl (by decide) (by decide) rfl rfl rfl (fun b45 => ?_)
          refine undel (d := 45) rfl ?_
          refine eWeak (weak_settle (k := 45) rfl (by repeat constructor) (by first | (simp; done) | rfl)) (fun b hb => by simp [owns, HA.own] at hb ⊢; first | (rcases hb with h | h | h | h <;> simp [h]; done) | (rcases hb with h | h | h <;> simp [h]; done) | (rcases hb with h | h <;> simp [h]; done) | (simp [hb]; done)) ?_
          refine eTwoS (i := 10) (j := 16) #[true, true, true, true, true, true, true, true, true, true, true, true, true, true, true, true, false, false, false, false] #[true, true, true, true, true, true, true, true, true, true, false, true, true, true, true, true, true, false, false, false] rfl rfl (HT.two (by kernel_rfl)) (by decide) (by decide) ?_ ?_
          ·skip
           refine stQ (wantN rfl) (fun t ht => by cases ht <;> decide) ?_
           refine qLit (l := [_]) rfl rfl (by decide) us_39 ty_9 ze_9 rfl (by decide) (by decide) rfl rfl rfl (fun b40 => ?_)
           refine undel (d := 40) rfl ?_
           refine eWeak (weak_settle (k := 40) rfl (by repeat constructor) (by first | (simp; done) | rfl)) (fun b hb => by simp [owns, HA.own] at hb ⊢; first | (rcases hb with h | h | h | h <;> simp [h]; done) | (rcases hb with h | h | h <;> simp [h]; done) | (rcases hb with h | h <;> simp [h]; done) | (simp [hb]; done)) ?_
           refine eOneS (i := 16) #[true, true, true, true, true, true, true, true, true, true, true, true, true, true, true, true, true, false, false, false] rfl (HT.one (by kernel_rfl)) (by decide) ?_
           ·skip
            refine stA (hx := [.know 1 (powO G.tp G.zp)]) (wantN rfl) (fun t ht => by cases ht <;> decide) (.cons (by repeat constructor) .nil) (by repeat constructor) ?_
            refine cai rfl rfl rfl (conf_nums_s (l := [x.ca, x.cb]) G (by simp) (fun z hz => by simp only [List.mem_cons, List.not_mem_nil, or_false] at hz; rcases hz with rfl | rfl <;> omega)) ?_
            refine undel (d := 46) rfl ?_
            try dsimp only [List.cons_append, List.nil_append]
            refine e1 HT 17 rfl ?_
            refine qLit (l := [_, _, _, _]) rfl rfl (by decide) us_60 ty_39 ze_39 rfl (by decide) (by decide) rfl rfl rfl (fun b47 => ?_)
            refine eWeak (weak_settle (k := 47) rfl (by repeat constructor) (by first | (simp; done) | rfl)) (fun b hb => by simp [owns, HA.own] at hb ⊢; first | (rcases hb with h | h | h | h <;> simp [h]; done) | (rcases hb with h | h | h <;> simp [h]; done) | (rcases hb with h | h <;> simp [h]; done) | (simp [hb]; done)) ?_
            refine eOneS (i := 18) #[true, true, true, true, true, true, true, true, true, true, true, true, true, true, true, true, true, true, true, false] rfl (HT.one (by kernel_rfl)) (by decide) ?_
            ·skip
             refine stA (hx := []) (wantN rfl) (fun t ht => by cases ht <;> decide) .nil (by repeat constructor) ?_
             first | refine coM rfl rfl rfl (concat_S (l := [[[119, 105, 114, 101]], [itoa x.a, itoa x.b], [howS x.u], [itoa x.ca, itoa x.cb]]) (by simp) (by simp)) (fun g48 k48 => ?_) | refine co rfl rfl rfl (concat_S (l := [[[119, 105, 114, 101]], [itoa x.a, itoa x.b], [howS x.u], [itoa x.ca, itoa x.cb]]) (by simp) (by simp)) (fun g48 k48 => ?_)
             refine undel (d := 48) rfl ?_
             try dsimp only [List.cons_append, List.nil_append]
             refine ef HT 19 rfl pMa ?_
             refine eE HT ?_
             clear HT
             refine ⟨(_, _), ?_, ⟨gLen rfl (by first | rfl | simp | (simp; omega)), rfl, rfl, rfl, rfl, trivial⟩, _, (by repeat constructor)⟩
             trivial
          ·skip
           refine stA (hx := [.know 1 (powO G.tp G.zp)]) (wantN rfl) (fun t ht => by cases ht <;> decide) (.cons (by repeat constructor) .nil) (by repeat constructor) ?_
           refine cai rfl rfl rfl (conf_nums_s (l := [x.ca, x.cb]) G (by simp) (fun z hz => by simp only [List.mem_cons, List.not_mem_nil, or_false] at hz; rcases hz with rfl | rfl <;> omega)) ?_
           refine undel (d := 46) rfl ?_
           try dsimp only [List.cons_append, List.nil_append]
           refine e1 HT 10 rfl ?_
           refine qLit (l := [_]) rfl rfl (by decide) us_39 ty_9 ze_9 rfl (by decide) (by decide) rfl rfl rfl (fun b40 => ?_)
           refine eWeak (weak_settle (k := 40) rfl (by repeat constructor) (by first | (simp; done) | rfl)) (fun b hb => by simp [owns, HA.own] at hb ⊢; first | (rcases hb with h | h | h | h <;> simp [h]; done) | (rcases hb with h | h | h <;> simp [h]; done) | (rcases hb with h | h <;> simp [h]; done) | (simp [hb]; done)) ?_
           refine e1 HT 17 rfl ?_
           refine qLit (l := [_, _, _, _]) rfl rfl (by decide) us_60 ty_39 ze_39 rfl (by decide) (by decide) rfl rfl rfl (fun b47 => ?_)
           refine eWeak (weak_settle (k := 47) rfl (by repeat constructor) (by first | (simp; done) | rfl)) (fun b hb => by simp [owns, HA.own] at hb ⊢; first | (rcases hb with h | h | h | h <;> simp [h]; done) | (rcases hb with h | h | h <;> simp [h]; done) | (rcases hb with h | h <;> simp [h]; done) | (simp [hb]; done)) ?_
           refine eOneS (i := 18) #[true, true, true, true, true, true, true, true, true, true, true, true, true, true, true, true, true, true, true, false] rfl (HT.one (by kernel_rfl)) (by decide) ?_
           ·skip
            refine stA (hx := []) (wantN rfl) (fun t ht => by cases ht <;> decide) .nil (by repeat constructor) ?_
            first | refine coM rfl rfl rfl (concat_S (l := [[[119, 105, 114, 101]], [itoa x.a, itoa x.b], [howS x.u], [itoa x.ca, itoa x.cb]]) (by simp) (by simp)) (fun g48 k48 => ?_) | refine co rfl rfl rfl (concat_S (l := [[[119, 105, 114, 101]], [itoa x.a, itoa x.b], [howS x.u], [itoa x.ca, itoa x.cb]]) (by simp) (by simp)) (fun g48 k48 => ?_)
            refine undel (d := 48) rfl ?_
            try dsimp only [List.cons_append, List.nil_append]
            refine ef HT 19 rfl pMa ?_
            refine eE HT ?_
            clear HT
            refine ⟨(_, _), ?_, ⟨gLen rfl (by first | rfl | simp | (simp; omega)), rfl, rfl, rfl, rfl, trivial⟩, _, (by repeat constructor)⟩
            trivial
        ·skip
         refine stQ (wantN rfl) (fun t ht => by cases ht <;> decide) ?_
         refine qLit (l := [_, _]) rfl rfl (by decide) us_62 ty_3 ze_3 rfl (by decide) (by decide) rfl rfl rfl (fun b45 => ?_)
         refine undel (d := 45) rfl ?_
         refine eWeak (weak_settle (k := 45) rfl (by repeat constructor) (by first | (simp; done) | rfl)) (fun b hb => by simp [owns, HA.own] at hb ⊢; first | (rcases hb with h | h | h | h <;> simp [h]; done) | (rcases hb with h | h | h <;> simp [h]; done) | (rcases hb with h | h <;> simp [h]; done) | (simp [hb]; done)) ?_
         refine e1 HT 9 rfl ?_
         refine cv rfl rfl rfl (lents_refl _) (conf_how (u := x.u)) ?_
         refine eTwoS (i := 10) (j := 16) #[true, true, true, true, true, true, true, true, true, true, true, true, true, true, true, true, false, false, false, false] #[true, true, true, true, true, true, true, true, true, true, false, true, true, true, true, true, true, false, false, false] rfl rfl (HT.two (by kernel_rfl)) (by decide) (by decide) ?_ ?_
         ·skip
          refine stQ (wantN rfl) (fun t ht => by cases ht <;> decide) ?_
          refine qLit (l := [_]) rfl rfl (by decide) us_39 ty_9 ze_9 rfl (by decide) (by decide) rfl rfl rfl (fun b40 => ?_)
          refine undel (d := 40) rfl ?_
          refine eWeak (weak_settle (k := 40) rfl (by repeat constructor) (by first | (simp; done) | rfl)) (fun b hb => by simp [owns, HA.own] at hb ⊢; first | (rcases hb with h | h | h | h <;> simp [h]; done) | (rcases hb with h | h | h <;> simp [h]; done) | (rcases hb with h | h <;> simp [h]; done) | (simp [hb]; done)) ?_
          refine eOneS (i := 16) #[true, true, true, true, true, true, true, true, true, true, true, true, true, true, true, true, true, false, false, false] rfl (HT.one (by kernel_rfl)) (by decide) ?_
          ·skip
           refine stA (hx := [.know 1 (powO G.tp G.zp)]) (wantN rfl) (fun t ht => by cases ht <;> decide) (.cons (by repeat constructor) .nil) (by repeat constructor) ?_
           refine cai rfl rfl rfl (conf_nums_s (l := [x.ca, x.cb]) G (by simp) (fun z hz => by simp only [List.mem_cons, List.not_mem_nil, or_false] at hz; rcases hz with rfl | rfl <;> omega)) ?_
           refine undel (d := 46) rfl ?_
           try dsimp only [List.cons_append, List.nil_append]
           refine e1 HT 17 rfl ?_
           refine qLit (l := [_, _, _, _]) rfl rfl (by decide) us_60 ty_39 ze_39 rfl (by decide) (by decide) rfl rfl rfl (fun b47 => ?_)
           refine eWeak (weak_settle (k := 47) rfl (by repeat constructor) (by first | (simp; done) | rfl)) (fun b hb => by simp [owns, HA.own] at hb ⊢; first | (rcases hb with h | h | h | h <;> simp [h]; done) | (rcases hb with h | h | h <;> simp [h]; done) | (rcases hb with h | h <;> simp [h]; done) | (simp [hb]; done)) ?_
           refine eOneS (i := 18) #[true, true, true, true, true, true, true, true, true, true, true, true, true, true, true, true, true, true, true, false] rfl (HT.one (by kernel_rfl)) (by decide) ?_
           ·skip
            refine stA (hx := []) (wantN rfl) (fun t ht => by cases ht <;> decide) .nil (by repeat constructor) ?_
            first | refine coM rfl rfl rfl (concat_S (l := [[[119, 105, 114, 101]], [itoa x.a, itoa x.b], [howS x.u], [itoa x.ca, itoa x.cb]]) (by simp) (by simp)) (fun g48 k48 => ?_) | refine co rfl rfl rfl (concat_S (l := [[[119, 105, 114, 101]], [itoa x.a, itoa x.b], [howS x.u], [itoa x.ca, itoa x.cb]]) (by simp) (by simp)) (fun g48 k48 => ?_)
            refine undel (d := 48) rfl ?_
            try dsimp only [List.cons_append, List.nil_append]
            refine ef HT 19 rfl pMa ?_
            refine eE HT ?_
            clear HT
            refine ⟨(_, _), ?_, ⟨gLen rfl (by first | rfl | simp | (simp; omega)), rfl, rfl, rfl, rfl, trivial⟩, _, (by repeat constructor)⟩
            trivial
         ·skip
          refine stA (hx := [.know 1 (powO G.tp G.zp)]) (wantN rfl) (fun t ht => by cases ht <;> decide) (.cons (by repeat constructor) .nil) (by repeat constructor) ?_
          refine cai rfl rfl rfl (conf_nums_s (l := [x.ca, x.cb]) G (by simp) (fun z hz => by simp only [List.mem_cons, List.not_mem_nil, or_false] at hz; rcases hz with rfl | rfl <;> omega)) ?_
          refine undel (d := 46) rfl ?_
          try dsimp only [List.cons_append, List.nil_append]
          refine e1 HT 10 rfl ?_
          refine qLit (l := [_]) rfl rfl (by decide) us_39 ty_9 ze_9 rfl (by decide) (by decide) rfl rfl rfl (fun b40 => ?_)
          refine eWeak (weak_settle (k := 40) rfl (by repeat constructor) (by first | (simp; done) | rfl)) (fun b hb => by simp [owns, HA.own] at hb ⊢; first | (rcases hb with h | h | h | h <;> simp [h]; done) | (rcases hb with h | h | h <;> simp [h]; done) | (rcases hb with h | h <;> simp [h]; done) | (simp [hb]; done)) ?_
          refine e1 HT 17 rfl ?_
          refine qLit (l := [_, _, _, _]) rfl rfl (by decide) us_60 ty_39 ze_39 rfl (by decide) (by decide) rfl rfl rfl (fun b47 => ?_)
          refine eWeak (weak_settle (k := 47) rfl (by repeat constructor) (by first | (simp; done) | rfl)) (fun b hb => by simp [owns, HA.own] at hb ⊢; first | (rcases hb with h | h | h | h <;> simp [h]; done) | (rcases hb with h | h | h <;> simp [h]; done) | (rcases hb with h | h <;> simp [h]; done) | (simp [hb]; done)) ?_
          refine eOneS (i := 18) #[true, true, true, true, true, true, true, true, true, true, true, true, true, true, true, true, true, true, true, false] rfl (HT.one (by kernel_rfl)) (by decide) ?_
          ·skip
           refine stA (hx := []) (wantN rfl) (fun t ht => by cases ht <;> decide) .nil (by repeat constructor) ?_
           first | refine coM rfl rfl rfl (concat_S (l := [[[119, 105, 114, 101]], [itoa x.a, itoa x.b], [howS x.u], [itoa x.ca, itoa x.cb]]) (by simp) (by simp)) (fun g48 k48 => ?_) | refine co rfl rfl rfl (concat_S (l := [[[119, 105, 114, 101]], [itoa x.a, itoa x.b], [howS x.u], [itoa x.ca, itoa x.cb]]) (by simp) (by simp)) (fun g48 k48 => ?_)
           refine undel (d := 48) rfl ?_
           try dsimp only [List.cons_append, List.nil_append]
           refine ef HT 19 rfl pMa ?_
           refine eE HT ?_
           clear HT
           refine ⟨(_, _), ?_, ⟨gLen rfl (by first | rfl | simp | (simp; omega)), rfl, rfl, rfl, rfl, trivial⟩, _, (by repeat constructor)⟩
           trivial
       ·skip
        refine stQ (wantN rfl) (fun t ht => by cases ht <;> decide) ?_
        refine qLit (l := [_, _]) rfl rfl (by decide) us_62 ty_3 ze_3 rfl (by decide) (by decide) rfl rfl rfl (fun b45 => ?_)
        refine undel (d := 45) rfl ?_
        refine eWeak (weak_settle (k := 45) rfl (by repeat constructor) (by first | (simp; done) | rfl)) (fun b hb => by simp [owns, HA.own] at hb ⊢; first | (rcases hb with h | h | h | h <;> simp [h]; done) | (rcases hb with h | h | h <;> simp [h]; done) | (rcases hb with h | h <;> simp [h]; done) | (simp [hb]; done)) ?_
        refine eOneS (i := 6) #[true, true, true, true, true, true, true, true, true, false, false, true, true, true, true, true, false, false, false, false] rfl (HT.one (by kernel_rfl)) (by decide) ?_
        ·skip
         refine stA (hx := [.know 1 (powO G.tp G.zp)]) (wantN rfl) (fun t ht => by cases ht <;> decide) (.cons (by repeat constructor) .nil) (by repeat constructor) ?_
         refine cai rfl rfl rfl (conf_nums_s (l := [x.a, x.b]) G (by simp) (fun z hz => by simp only [List.mem_cons, List.not_mem_nil, or_false] at hz; rcases hz with rfl | rfl <;> omega)) ?_
         refine undel (d := 36) rfl ?_
         try dsimp only [List.cons_append, List.nil_append]
         refine e1 HT 9 rfl ?_
         refine cv rfl rfl rfl (lents_refl _) (conf_how (u := x.u)) ?_
         refine eTwoS (i := 10) (j := 16) #[true, true, true, true, true, true, true, true, true, true, true, true, true, true, true, true, false, false, false, false] #[true, true, true, true, true, true, true, true, true, true, false, true, true, true, true, true, true, false, false, false] rfl rfl (HT.two (by kernel_rfl)) (by decide) (by decide) ?_ ?_
         ·skip
          refine stQ (wantN rfl) (fun t ht => by cases ht <;> decide) ?_
          refine qLit (l := [_]) rfl rfl (by decide) us_39 ty_9 ze_9 rfl (by decide) (by decide) rfl rfl rfl (fun b40 => ?_)
          refine undel (d := 40) rfl ?_
          refine eWeak (weak_settle (k := 40) rfl (by repeat constructor) (by first | (simp; done) | rfl)) (fun b hb => by simp [owns, HA.own] at hb ⊢; first | (rcases hb with h | h | h | h <;> simp [h]; done) | (rcases hb with h | h | h <;> simp [h]; done) | (rcases hb with h | h <;> simp [h]; done) | (simp [hb]; done)) ?_
          refine eOneS (i := 16) #[true, true, true, true, true, true, true, true, true, true, true, true, true, true, true, true, true, false, false, false] rfl (HT.one (by kernel_rfl)) (by decide) ?_
          ·skip
           refine stA (hx := [.know 1 (powO G.tp G.zp)]) (wantN rfl) (fun t ht => by cases ht <;> decide) (.cons (by repeat constructor) .nil) (by repeat constructor) ?_
           refine cai rfl rfl rfl (conf_nums_s (l := [x.ca, x.cb]) G (by simp) (fun z hz => by simp only [List.mem_cons, List.not_mem_nil, or_false] at hz; rcases hz with rfl | rfl <;> omega)) ?_
           refine undel (d := 46) rfl ?_
           try dsimp only [List.cons_append, List.nil_append]
           refine e1 HT 17 rfl ?_
           refine qLit (l := [_, _, _, _]) rfl rfl (by decide) us_60 ty_39 ze_39 rfl (by decide) (by decide) rfl rfl rfl (fun b47 => ?_)
           refine eWeak (weak_settle (k := 47) rfl (by repeat constructor) (by first | (simp; done) | rfl)) (fun b hb => by simp [owns, HA.own] at hb ⊢; first | (rcases hb with h | h | h | h <;> simp [h]; done) | (rcases hb with h | h | h <;> simp [h]; done) | (rcases hb with h | h <;> simp [h]; done) | (simp [hb]; done)) ?_
           refine eOneS (i := 18) #[true, true, true, true, true, true, true, true, true, true, true, true, true, true, true, true, true, true, true, false] rfl (HT.one (by kernel_rfl)) (by decide) ?_
           ·skip
            refine stA (hx := []) (wantN rfl) (fun t ht => by cases ht <;> decide) .nil (by repeat constructor) ?_
            first | refine coM rfl rfl rfl (concat_S (l := [[[119, 105, 114, 101]], [itoa x.a, itoa x.b], [howS x.u], [itoa x.ca, itoa x.cb]]) (by simp) (by simp)) (fun g48 k48 => ?_) | refine co rfl rfl rfl (concat_S (l := [[[119, 105, 114, 101]], [itoa x.a, itoa x.b], [howS x.u], [itoa x.ca, itoa x.cb]]) (by simp) (by simp)) (fun g48 k48 => ?_)
            refine undel (d := 48) rfl ?_
            try dsimp only [List.cons_append, List.nil_append]
            refine ef HT 19 rfl pMa ?_
            refine eE HT ?_
            clear HT
            refine ⟨(_, _), ?_, ⟨gLen rfl (by first | rfl | simp | (simp; omega)), rfl, rfl, rfl, rfl, trivial⟩, _, (by repeat constructor)⟩
            trivial
         ·skip
          refine stA (hx := [.know 1 (powO G.tp G.zp)]) (wantN rfl) (fun t ht => by cases ht <;> decide) (.cons (by repeat constructor) .nil) (by repeat constructor) ?_
          refine cai rfl rfl rfl (conf_nums_s (l := [x.ca, x.cb]) G (by simp) (fun z hz => by simp only [List.mem_cons, List.not_mem_nil, or_false] at hz; rcases hz with rfl | rfl <;> omega)) ?_
          refine undel (d := 46) rfl ?_
          try dsimp only [List.cons_append, List.nil_append]
          refine e1 HT 10 rfl ?_
          refine qLit (l := [_]) rfl rfl (by decide) us_39 ty_9 ze_9 rfl (by decide) (by decide) rfl rfl rfl (fun b40 => ?_)
          refine eWeak (weak_settle (k := 40) rfl (by repeat constructor) (by first | (simp; done) | rfl)) (fun b hb => by simp [owns, HA.own] at hb ⊢; first | (rcases hb with h | h | h | h <;> simp [h]; done) | (rcases hb with h | h | h <;> simp [h]; done) | (rcases hb with h | h <;> simp [h]; done) | (simp [hb]; done)) ?_
          refine e1 HT 17 rfl ?_
          refine qLit (l := [_, _, _, _]) rfl rfl (by decide) us_60 ty_39 ze_39 rfl (by decide) (by decide) rfl rfl rfl (fun b47 => ?_)
          refine eWeak (weak_settle (k := 47) rfl (by repeat constructor) (by first | (simp; done) | rfl)) (fun b hb => by simp [owns, HA.own] at hb ⊢; first | (rcases hb with h | h | h | h <;> simp [h]; done) | (rcases hb with h | h | h <;> simp [h]; done) | (rcases hb with h | h <;> simp [h]; done) | (simp [hb]; done)) ?_
          refine eOneS (i := 18) #[true, true, true, true, true, true, true, true, true, true, true, true, true, true, true, true, true, true, true, false] rfl (HT.one (by kernel_rfl)) (by decide) ?_
          ·skip
           refine stA (hx := []) (wantN rfl) (fun t ht => by cases ht <;> decide) .nil (by repeat constructor) ?_
           first | refine coM rfl rfl rfl (concat_S (l := [[[119, 105, 114, 101]], [itoa x.a, itoa x.b], [howS x.u], [itoa x.ca, itoa x.cb]]) (by simp) (by simp)) (fun g48 k48 => ?_) | refine co rfl rfl rfl (concat_S (l := [[[119, 105, 114, 101]], [itoa x.a, itoa x.b], [howS x.u], [itoa x.ca, itoa x.cb]]) (by simp) (by simp)) (fun g48 k48 => ?_)
           refine undel (d := 48) rfl ?_
           try dsimp only [List.cons_append, List.nil_append]
           refine ef HT 19 rfl pMa ?_
           refine eE HT ?_
           clear HT
           refine ⟨(_, _), ?_, ⟨gLen rfl (by first | rfl | simp | (simp; omega)), rfl, rfl, rfl, rfl, trivial⟩, _, (by repeat constructor)⟩
           trivial
      ·skip
       refine stA (hx := [.know 1 (powO G.tp G.zp)]) (wantN rfl) (fun t ht => by cases ht <;> decide) (.cons (by repeat constructor) .nil) (by repeat constructor) ?_
       refine cai rfl rfl rfl (conf_nums_s (l := [x.a, x.b]) G (by simp) (fun z hz => by simp only [List.mem_cons, List.not_mem_nil, or_false] at hz; rcases hz with rfl | rfl <;> omega)) ?_
       refine undel (d := 36) rfl ?_
       try dsimp only [List.cons_append, List.nil_append]
       refine eThreeS (i := 0) (j := 9) (k := 15) #[true, true, true, true, true, true, true, true, true, false, false, true, true, true, true, false, false, false, false, false] #[false, true, true, true, true, true, true, true, true, true, false, true, true, true, true, false, false, false, false, false] #[false, true, true, true, true, true, true, true, true, false, false, true, true, true, true, true, false, false, false, false] rfl rfl rfl (HT.three (by kernel_rfl)) (by decide) (by decide) (by decide) ?_ ?_ ?_
       ·skip
        refine stQ (wantN rfl) (fun t ht => by cases ht <;> decide) ?_
        refine qLit (l := [_]) rfl rfl (by decide) us_39 ty_9 ze_9 rfl (by decide) (by decide) rfl rfl rfl (fun b30 => ?_)
        refine undel (d := 30) rfl ?_
        refine eWeak (weak_settle (k := 30) rfl (by repeat constructor) (by first | (simp; done) | rfl)) (fun b hb => by simp [owns, HA.own] at hb ⊢; first | (rcases hb with h | h | h | h <;> simp [h]; done) | (rcases hb with h | h | h <;> simp [h]; done) | (rcases hb with h | h <;> simp [h]; done) | (simp [hb]; done)) ?_
        refine eTwoS (i := 9) (j := 15) #[true, true, true, true, true, true, true, true, true, true, false, true, true, true, true, false, false, false, false, false] #[true, true, true, true, true, true, true, true, true, false, false, true, true, true, true, true, false, false, false, false] rfl rfl (HT.two (by kernel_rfl)) (by decide) (by decide) ?_ ?_
        ·skip
         refine stQ (wantN rfl) (fun t ht => by cases ht <;> decide) ?_
         refine cv rfl rfl rfl (lents_refl _) (conf_how (u := x.u)) ?_
         refine undel (d := 39) rfl ?_
         refine eTwoS (i := 10) (j := 15) #[true, true, true, true, true, true, true, true, true, true, true, true, true, true, true, false, false, false, false, false] #[true, true, true, true, true, true, true, true, true, true, false, true, true, true, true, true, false, false, false, false] rfl rfl (HT.two (by kernel_rfl)) (by decide) (by decide) ?_ ?_
         ·skip
          refine stQ (wantN rfl) (fun t ht => by cases ht <;> decide) ?_
          refine qLit (l := [_]) rfl rfl (by decide) us_39 ty_9 ze_9 rfl (by decide) (by decide) rfl rfl rfl (fun b40 => ?_)
          refine undel (d := 40) rfl ?_
          refine eWeak (weak_settle (k := 40) rfl (by repeat constructor) (by first | (simp; done) | rfl)) (fun b hb => by simp [owns, HA.own] at hb ⊢; first | (rcases hb with h | h | h | h <;> simp [h]; done) | (rcases hb with h | h | h <;> simp [h]; done) | (rcases hb with h | h <;> simp [h]; done) | (simp [hb]; done)) ?_
          refine e1 HT 15 rfl ?_
          refine qLit (l := [_, _]) rfl rfl (by decide) us_62 ty_3 ze_3 rfl (by decide) (by decide) rfl rfl rfl (fun b45 => ?_)
          refine eWeak (weak_settle (k := 45) rfl (by repeat constructor) (by first | (simp; done) | rfl)) (fun b hb => by simp [owns, HA.own] at hb ⊢; first | (rcases hb with h | h | h | h <;> simp [h]; done) | (rcases hb with h | h | h <;> simp [h]; done) | (rcases hb with h | h <;> simp [h]; done) | (simp [hb]; done)) ?_
          refine eOneS (i := 16) #[true, true, true, true, true, true, true, true, true, true, true, true, true, true, true, true, true, false, false, false] rfl (HT.one (by kernel_rfl)) (by decide) ?_
          ·skip
           refine stA (hx := [.know 1 (powO G.tp G.zp)]) (wantN rfl) (fun t ht => by cases ht <;> decide) (.cons (by repeat constructor) .nil) (by repeat constructor) ?_
           refine cai rfl rfl rfl (conf_nums_s (l := [x.ca, x.cb]) G (by simp) (fun z hz => by simp only [List.mem_cons, List.not_mem_nil, or_false] at hz; rcases hz with rfl | rfl <;> omega)) ?_
           refine undel (d := 46) rfl ?_
           try dsimp only [List.cons_append, List.nil_append]
           refine e1 HT 17 rfl ?_
           refine qLit (l := [_, _, _, _]) rfl rfl (by decide) us_60 ty_39 ze_39 rfl (by decide) (by decide) rfl rfl rfl (fun b47 => ?_)
           refine eWeak (weak_settle (k := 47) rfl (by repeat constructor) (by first | (simp; done) | rfl)) (fun b hb => by simp [owns, HA.own] at hb ⊢; first | (rcases hb with h | h | h | h <;> simp [h]; done) | (rcases hb with h | h | h <;> simp [h]; done) | (rcases hb with h | h <;> simp [h]; done) | (simp [hb]; done)) ?_
           refine eOneS (i := 18) #[true, true, true, true, true, true, true, true, true, true, true, true, true, true, true, true, true, true, true, false] rfl (HT.one (by kernel_rfl)) (by decide) ?_
           ·skip
            refine stA (hx := []) (wantN rfl) (fun t ht => by cases ht <;> decide) .nil (by repeat constructor) ?_
            first | refine coM rfl rfl rfl (concat_S (l := [[[119, 105, 114, 101]], [itoa x.a, itoa x.b], [howS x.u], [itoa x.ca, itoa x.cb]]) (by simp) (by simp)) (fun g48 k48 => ?_) | refine co rfl rfl rfl (concat_S (l := [[[119, 105, 114, 101]], [itoa x.a, itoa x.b], [howS x.u], [itoa x.ca, itoa x.cb]]) (by simp) (by simp)) (fun g48 k48 => ?_)
            refine undel (d := 48) rfl ?_
            try dsimp only [List.cons_append, List.nil_append]
            refine ef HT 19 rfl pMa ?_
            refine eE HT ?_
            clear HT
            refine ⟨(_, _), ?_, ⟨gLen rfl (by first | rfl | simp | (simp; omega)), rfl, rfl, rfl, rfl, trivial⟩, _, (by repeat constructor)⟩
            trivial
         ·skip
          refine stQ (wantN rfl) (fun t ht => by cases ht <;> decide) ?_
          refine qLit (l := [_, _]) rfl rfl (by decide) us_62 ty_3 ze_3 rfl (by decide) (by decide) rfl rfl rfl (fun b45 => ?_)
          refine undel (d := 45) rfl ?_
          refine eWeak (weak_settle (k := 45) rfl (by repeat constructor) (by first | (simp; done) | rfl)) (fun b hb => by simp [owns, HA.own] at hb ⊢; first | (rcases hb with h | h | h | h <;> simp [h]; done) | (rcases hb with h | h | h <;> simp [h]; done) | (rcases hb with h | h <;> simp [h]; done) | (simp [hb]; done)) ?_
          refine eTwoS (i := 10) (j := 16) #[true, true, true, true, true, true, true, true, true, true, true, true, true, true, true, true, false, false, false, false] #[true, true, true, true, true, true, true, true, true, true, false, true, true, true, true, true, true, false, false, false] rfl rfl (HT.two (by kernel_rfl)) (by decide) (by decide) ?_ ?_
          ·skip
           refine stQ (wantN rfl) (fun t ht => by cases ht <;> decide) ?_
           refine qLit (l := [_]) rfl rfl (by decide) us_39 ty_9 ze_9 rfl (by decide) (by decide) rfl rfl rfl (fun b40 => ?_)
           refine undel (d := 40) rfl ?_
           refine eWeak (weak_settle (k := 40) rfl (by repeat constructor) (by first | (simp; done) | rfl)) (fun b hb => by simp [owns, HA.own] at hb ⊢; first | (rcases hb with h | h | h | h <;> simp [h]; done) | (rcases hb with h | h | h <;> simp [h]; done) | (rcases hb with h | h <;> simp [h]; done) | (simp [hb]; done)) ?_
           refine eOneS (i := 16) #[true, true, true, true, true, true, true, true, true, true, true, true, true, true, true, true, true, false, false, false] rfl (HT.one (by kernel_rfl)) (by decide) ?_
           ·skip
            refine stA (hx := [.know 1 (powO G.tp G.zp)]) (wantN rfl) (fun t ht => by cases ht <;> decide) (.cons (by repeat constructor) .nil) (by repeat constructor) ?_
            refine cai rfl rfl rfl (conf_nums_s (l := [x.ca, x.cb]) G (by simp) (fun z hz => by simp only [List.mem_cons, List.not_mem_nil, or_false] at hz; rcases hz with rfl | rfl <;> omega)) ?_
            refine undel (d := 46) rfl ?_
            try dsimp only [List.cons_append, List.nil_append]
            refine e1 HT 17 rfl ?_
            refine qLit (l := [_, _, _, _]) rfl rfl (by decide) us_60 ty_39 ze_39 rfl (by decide) (by decide) rfl rfl rfl (fun b47 => ?_)
            refine eWeak (weak_settle (k := 47) rfl (by repeat constructor) (by first | (simp; done) | rfl)) (fun b hb => by simp [owns, HA.own] at hb ⊢; first | (rcases hb with h | h | h | h <;> simp [h]; done) | (rcases hb with h | h | h <;> simp [h]; done) | (rcases hb with h | h <;> simp [h]; done) | (simp [hb]; done)) ?_
            refine eOneS (i := 18) #[true, true, true, true, true, true, true, true, true, true, true, true, true, true, true, true, true, true, true, false] rfl (HT.one (by kernel_rfl)) (by decide) ?_
            ·skip
             refine stA (hx := []) (wantN rfl) (fun t ht => by cases ht <;> decide) .nil (by repeat constructor) ?_
             first | refine coM rfl rfl rfl (concat_S (l := [[[119, 105, 114, 101]], [itoa x.a, itoa x.b], [howS x.u], [itoa x.ca, itoa x.cb]]) (by simp) (by simp)) (fun g48 k48 => ?_) | refine co rfl rfl rfl (concat_S (l := [[[119, 105, 114, 101]], [itoa x.a, itoa x.b], [howS x.u], [itoa x.ca, itoa x.cb]]) (by simp) (by simp)) (fun g48 k48 => ?_)
             refine undel (d := 48) rfl ?_
             try dsimp only [List.cons_append, List.nil_append]
             refine ef HT 19 rfl pMa ?_
             refine eE HT ?_
             clear HT
             refine ⟨(_, _), ?_, ⟨gLen rfl (by first | rfl | simp | (simp; omega)), rfl, rfl, rfl, rfl, trivial⟩, _, (by repeat constructor)⟩
             trivial
          ·skip
           refine stA (hx := [.know 1 (powO G.tp G.zp)]) (wantN rfl) (fun t ht => by cases ht <;> decide) (.cons (by repeat constructor) .nil) (by repeat constructor) ?_
           refine cai rfl rfl rfl (conf_nums_s (l := [x.ca, x.cb]) G (by simp) (fun z hz => by simp only [List.mem_cons, List.not_mem_nil, or_false] at hz; rcases hz with rfl | rfl <;> omega)) ?_
           refine undel (d := 46) rfl ?_
           try dsimp only [List.cons_append, List.nil_append]
           refine e1 HT 10 rfl ?_
           refine qLit (l := [_]) rfl rfl (by decide) us_39 ty_9 ze_9 rfl (by decide) (by decide) rfl rfl rfl (fun b40 => ?_)
           refine eWeak (weak_settle (k := 40) rfl (by repeat constructor) (by first | (simp; done) | rfl)) (fun b hb => by simp [owns, HA.own] at hb ⊢; first | (rcases hb with h | h | h | h <;> simp [h]; done) | (rcases hb with h | h | h <;> simp [h]; done) | (rcases hb with h | h <;> simp [h]; done) | (simp [hb]; done)) ?_
           refine e1 HT 17 rfl ?_
           refine qLit (l := [_, _, _, _]) rfl rfl (by decide) us_60 ty_39 ze_39 rfl (by decide) (by decide) rfl rfl rfl (fun b47 => ?_)
           refine eWeak (weak_settle (k := 47) rfl (by repeat constructor) (by first | (simp; done) | rfl)) (fun b hb => by simp [owns, HA.own] at hb ⊢; first | (rcases hb with h | h | h | h <;> simp [h]; done) | (rcases hb with h | h | h <;> simp [h]; done) | (rcases hb with h | h <;> simp [h]; done) | (simp [hb]; done)) ?_
           refine eOneS (i := 18) #[true, true, true, true, true, true, true, true, true, true, true, true, true, true, true, true, true, true, true, false] rfl (HT.one (by kernel_rfl)) (by decide) ?_
           ·skip
            refine stA (hx := []) (wantN rfl) (fun t ht => by cases ht <;> decide) .nil (by repeat constructor) ?_
            first | refine coM rfl rfl rfl (concat_S (l := [[[119, 105, 114, 101]], [itoa x.a, itoa x.b], [howS x.u], [itoa x.ca, itoa x.cb]]) (by simp) (by simp)) (fun g48 k48 => ?_) | refine co rfl rfl rfl (concat_S (l := [[[119, 105, 114, 101]], [itoa x.a, itoa x.b], [howS x.u], [itoa x.ca, itoa x.cb]]) (by simp) (by simp)) (fun g48 k48 => ?_)
            refine undel (d := 48) rfl ?_
            try dsimp only [List.cons_append, List.nil_append]
            refine ef HT 19 rfl pMa ?_
            refine eE HT ?_
            clear HT
            refine ⟨(_, _), ?_, ⟨gLen rfl (by first | rfl | simp | (simp; omega)), rfl, rfl, rfl, rfl, trivial⟩, _, (by repeat constructor)⟩
            trivial
        ·skip
         refine stQ (wantN rfl) (fun t ht => by cases ht <;> decide) ?_
         refine qLit (l := [_, _]) rfl rfl (by decide) us_62 ty_3 ze_3 rfl (by decide) (by decide) rfl rfl rfl (fun b45 => ?_)
         refine undel (d := 45) rfl ?_
         refine eWeak (weak_settle (k := 45) rfl (by repeat constructor) (by first | (simp; done) | rfl)) (fun b hb => by simp [owns, HA.own] at hb ⊢; first | (rcases hb with h | h | h | h <;> simp [h]; done) | (rcases hb with h | h | h <;> simp [h]; done) | (rcases hb with h | h <;> simp [h]; done) | (simp [hb]; done)) ?_
         refine e1 HT 9 rfl ?_
         refine cv rfl rfl rfl (lents_refl _) (conf_how (u := x.u)) ?_
         refine eTwoS (i := 10) (j := 16) #[true, true, true, true, true, true, true, true, true, true, true, true, true, true, true, true, false, false, false, false] #[true, true, true, true, true, true, true, true, true, true, false, true, true, true, true, true, true, false, false, false] rfl rfl (HT.two (by kernel_rfl)) (by decide) (by decide) ?_ ?_
         ·skip
          refine stQ (wantN rfl) (fun t ht => by cases ht <;> decide) ?_
          refine qLit (l := [_]) rfl rfl (by decide) us_39 ty_9 ze_9 rfl (by decide) (by decide) rfl rfl rfl (fun b40 => ?_)
          refine undel (d := 40) rfl ?_
          refine eWeak (weak_settle (k := 40) rfl (by repeat constructor) (by first | (simp; done) | rfl)) (fun b hb => by simp [owns, HA.own] at hb ⊢; first | (rcases hb with h | h | h | h <;> simp [h]; done) | (rcases hb with h | h | h <;> simp [h]; done) | (rcases hb with h | h <;> simp [h]; done) | (simp [hb]; done)) ?_
          refine eOneS (i := 16) #[true, true, true, true, true, true, true, true, true, true, true, true, true, true, true, true, true, false, false, false] rfl (HT.one (by kernel_rfl)) (by decide) ?_
          ·skip
           refine stA (hx := [.know 1 (powO G.tp G.zp)]) (wantN rfl) (fun t ht => by cases ht <;> decide) (.cons (by repeat constructor) .nil) (by repeat constructor) ?_
           refine cai rfl rfl rfl (conf_nums_s (l := [x.ca, x.cb]) G (by simp) (fun z hz => by simp only [List.mem_cons, List.not_mem_nil, or_false] at hz; rcases hz with rfl | rfl <;> omega)) ?_
           refine undel (d := 46) rfl ?_
           try dsimp only [List.cons_append, List.nil_append]
           refine e1 HT 17 rfl ?_
           refine qLit (l := [_, _, _, _]) rfl rfl (by decide) us_60 ty_39 ze_39 rfl (by decide) (by decide) rfl rfl rfl (fun b47 => ?_)
           refine eWeak (weak_settle (k := 47) rfl (by repeat constructor) (by first | (simp; done) | rfl)) (fun b hb => by simp [owns, HA.own] at hb ⊢; first | (rcases hb with h | h | h | h <;> simp [h]; done) | (rcases hb with h | h | h <;> simp [h]; done) | (rcases hb with h | h <;> simp [h]; done) | (simp [hb]; done)) ?_
           refine eOneS (i := 18) #[true, true, true, true, true, true, true, true, true, true, true, true, true, true, true, true, true, true, true, false] rfl (HT.one (by kernel_rfl)) (by decide) ?_
           ·skip
            refine stA (hx := []) (wantN rfl) (fun t ht => by cases ht <;> decide) .nil (by repeat constructor) ?_
            first | refine coM rfl rfl rfl (concat_S (l := [[[119, 105, 114, 101]], [itoa x.a, itoa x.b], [howS x.u], [itoa x.ca, itoa x.cb]]) (by simp) (by simp)) (fun g48 k48 => ?_) | refine co rfl rfl rfl (concat_S (l := [[[119, 105, 114, 101]], [itoa x.a, itoa x.b], [howS x.u], [itoa x.ca, itoa x.cb]]) (by simp) (by simp)) (fun g48 k48 => ?_)
            refine undel (d := 48) rfl ?_
            try dsimp only [List.cons_append, List.nil_append]
            refine ef HT 19 rfl pMa ?_
            refine eE HT ?_
            clear HT
            refine ⟨(_, _), ?_, ⟨gLen rfl (by first | rfl | simp | (simp; omega)), rfl, rfl, rfl, rfl, trivial⟩, _, (by repeat constructor)⟩
            trivial
         ·skip
          refine stA (hx := [.know 1 (powO G.tp G.zp)]) (wantN rfl) (fun t ht => by cases ht <;> decide) (.cons (by repeat constructor) .nil) (by repeat constructor) ?_
          refine cai rfl rfl rfl (conf_nums_s (l := [x.ca, x.cb]) G (by simp) (fun z hz => by simp only [List.mem_cons, List.not_mem_nil, or_false] at hz; rcases hz with rfl | rfl <;> omega)) ?_
          refine undel (d := 46) rfl ?_
          try dsimp only [List.cons_append, List.nil_append]
          refine e1 HT 10 rfl ?_
          refine qLit (l := [_]) rfl rfl (by decide) us_39 ty_9 ze_9 rfl (by decide) (by decide) rfl rfl rfl (fun b40 => ?_)
          refine eWeak (weak_settle (k := 40) rfl (by repeat constructor) (by first | (simp; done) | rfl)) (fun b hb => by simp [owns, HA.own] at hb ⊢; first | (rcases hb with h | h | h | h <;> simp [h]; done) | (rcases hb with h | h | h <;> simp [h]; done) | (rcases hb with h | h <;> simp [h]; done) | (simp [hb]; done)) ?_
          refine e1 HT 17 rfl ?_
          refine qLit (l := [_, _, _, _]) rfl rfl (by decide) us_60 ty_39 ze_39 rfl (by decide) (by decide) rfl rfl rfl (fun b47 => ?_)
          refine eWeak (weak_settle (k := 47) rfl (by repeat constructor) (by first | (simp; done) | rfl)) (fun b hb => by simp [owns, HA.own] at hb ⊢; first | (rcases hb with h | h | h | h <;> simp [h]; done) | (rcases hb with h | h | h <;> simp [h]; done) | (rcases hb with h | h <;> simp [h]; done) | (simp [hb]; done)) ?_
          refine eOneS (i := 18) #[true, true, true, true, true, true, true, true, true, true, true, true, true, true, true, true, true, true, true, false] rfl (HT.one (by kernel_rfl)) (by decide) ?_
          ·skip
           refine stA (hx := []) (wantN rfl) (fun t ht => by cases ht <;> decide) .nil (by repeat constructor) ?_
           first | refine coM rfl rfl rfl (concat_S (l := [[[119, 105, 114, 101]], [itoa x.a, itoa x.b], [howS x.u], [itoa x.ca, itoa x.cb]]) (by simp) (by simp)) (fun g48 k48 => ?_) | refine co rfl rfl rfl (concat_S (l := [[[119, 105, 114, 101]], [itoa x.a, itoa x.b], [howS x.u], [itoa x.ca, itoa x.cb]]) (by simp) (by simp)) (fun g48 k48 => ?_)
           refine undel (d := 48) rfl ?_
           try dsimp only [List.cons_append, List.nil_append]
           refine ef HT 19 rfl pMa ?_
           refine eE HT ?_
           clear HT
           refine ⟨(_, _), ?_, ⟨gLen rfl (by first | rfl | simp | (simp; omega)), rfl, rfl, rfl, rfl, trivial⟩, _, (by repeat constructor)⟩
           trivial
       ·skip
        refine stQ (wantN rfl) (fun t ht => by cases ht <;> decide) ?_
        refine cv rfl rfl rfl (lents_refl _) (conf_how (u := x.u)) ?_
        refine undel (d := 39) rfl ?_
        refine eThreeS (i := 0) (j := 10) (k := 15) #[true, true, true, true, true, true, true, true, true, true, false, true, true, true, true, false, false, false, false, false] #[false, true, true, true, true, true, true, true, true, true, true, true, true, true, true, false, false, false, false, false] #[false, true, true, true, true, true, true, true, true, true, false, true, true, true, true, true, false, false, false, false] rfl rfl rfl (HT.three (by kernel_rfl)) (by decide) (by decide) (by decide) ?_ ?_ ?_
        ·skip
         refine stQ (wantN rfl) (fun t ht => by cases ht <;> decide) ?_
         refine qLit (l := [_]) rfl rfl (by decide) us_39 ty_9 ze_9 rfl (by decide) (by decide) rfl rfl rfl (fun b30 => ?_)
         refine undel (d := 30) rfl ?_
         refine eWeak (weak_settle (k := 30) rfl (by repeat constructor) (by first | (simp; done) | rfl)) (fun b hb => by simp [owns, HA.own] at hb ⊢; first | (rcases hb with h | h | h | h <;> simp [h]; done) | (rcases hb with h | h | h <;> simp [h]; done) | (rcases hb with h | h <;> simp [h]; done) | (simp [hb]; done)) ?_
         refine eTwoS (i := 10) (j := 15) #[true, true, true, true, true, true, true, true, true, true, true, true, true, true, true, false, false, false, false, false] #[true, true, true, true, true, true, true, true, true, true, false, true, true, true, true, true, false, false, false, false] rfl rfl (HT.two (by kernel_rfl)) (by decide) (by decide) ?_ ?_
         ·skip
          refine stQ (wantN rfl) (fun t ht => by cases ht <;> decide) ?_
          refine qLit (l := [_]) rfl rfl (by decide) us_39 ty_9 ze_9 rfl (by decide) (by decide) rfl rfl rfl (fun b40 => ?_)
          refine undel (d := 40) rfl ?_
          refine eWeak (weak_settle (k := 40) rfl (by repeat constructor) (by first | (simp; done) | rfl)) (fun b hb => by simp [owns, HA.own] at hb ⊢; first | (rcases hb with h | h | h | h <;> simp [h]; done) | (rcases hb with h | h | h <;> simp [h]; done) | (rcases hb with h | h <;> simp [h]; done) | (simp [hb]; done)) ?_
          refine e1 HT 15 rfl ?_
          refine qLit (l := [_, _]) rfl rfl (by decide) us_62 ty_3 ze_3 rfl (by decide) (by decide) rfl rfl rfl (fun b45 => ?_)
          refine eWeak (weak_settle (k := 45) rfl (by repeat constructor) (by first | (simp; done) | rfl)) (fun b hb => by simp [owns, HA.own] at hb ⊢; first | (rcases hb with h | h | h | h <;> simp [h]; done) | (rcases hb with h | h | h <;> simp [h]; done) | (rcases hb with h | h <;> simp [h]; done) | (simp [hb]; done)) ?_
          refine eOneS (i := 16) #[true, true, true, true, true, true, true, true, true, true, true, true, true, true, true, true, true, false, false, false] rfl (HT.one (by kernel_rfl)) (by decide) ?_
          ·skip
           refine stA (hx := [.know 1 (powO G.tp G.zp)]) (wantN rfl) (fun t ht => by cases ht <;> decide) (.cons (by repeat constructor) .nil) (by repeat constructor) ?_
           refine cai rfl rfl rfl (conf_nums_s (l := [x.ca, x.cb]) G (by simp) (fun z hz => by simp only [List.mem_cons, List.not_mem_nil, or_false] at hz; rcases hz with rfl | rfl <;> omega)) ?_
           refine undel (d := 46) rfl ?_
           try dsimp only [List.cons_append, List.nil_append]
           refine e1 HT 17 rfl ?_
           refine qLit (l := [_, _, _, _]) rfl rfl (by decide) us_60 ty_39 ze_39 rfl (by decide) (by decide) rfl rfl rfl (fun b47 => ?_)
           refine eWeak (weak_settle (k := 47) rfl (by repeat constructor) (by first | (simp; done) | rfl)) (fun b hb => by simp [owns, HA.own] at hb ⊢; first | (rcases hb with h | h | h | h <;> simp [h]; done) | (rcases hb with h | h | h <;> simp [h]; done) | (rcases hb with h | h <;> simp [h]; done) | (simp [hb]; done)) ?_
           refine eOneS (i := 18) #[true, true, true, true, true, true, true, true, true, true, true, true, true, true, true, true, true, true, true, false] rfl (HT.one (by kernel_rfl)) (by decide) ?_
           ·skip
            refine stA (hx := []) (wantN rfl) (fun t ht => by cases ht <;> decide) .nil (by repeat constructor) ?_
            first | refine coM rfl rfl rfl (concat_S (l := [[[119, 105, 114, 101]], [itoa x.a, itoa x.b], [howS x.u], [itoa x.ca, itoa x.cb]]) (by simp) (by simp)) (fun g48 k48 => ?_) | refine co rfl rfl rfl (concat_S (l := [[[119, 105, 114, 101]], [itoa x.a, itoa x.b], [howS x.u], [itoa x.ca, itoa x.cb]]) (by simp) (by simp)) (fun g48 k48 => ?_)
            refine undel (d := 48) rfl ?_
            try dsimp only [List.cons_append, List.nil_append]
            refine ef HT 19 rfl pMa ?_
            refine eE HT ?_
            clear HT
            refine ⟨(_, _), ?_, ⟨gLen rfl (by first | rfl | simp | (simp; omega)), rfl, rfl, rfl, rfl, trivial⟩, _, (by repeat constructor)⟩
            trivial
         ·skip
          refine stQ (wantN rfl) (fun t ht => by cases ht <;> decide) ?_
          refine qLit (l := [_, _]) rfl rfl (by decide) us_62 ty_3 ze_3 rfl (by decide) (by decide) rfl rfl rfl (fun b45 => ?_)
          refine undel (d := 45) rfl ?_
          refine eWeak (weak_settle (k := 45) rfl (by repeat constructor) (by first | (simp; done) | rfl)) (fun b hb => by simp [owns, HA.own] at hb ⊢; first | (rcases hb with h | h | h | h <;> simp [h]; done) | (rcases hb with h | h | h <;> simp [h]; done) | (rcases hb with h | h <;> simp [h]; done) | (simp [hb]; done)) ?_
          refine eTwoS (i := 10) (j := 16) #[true, true, true, true, true, true, true, true, true, true, true, true, true, true, true, true, false, false, false, false] #[true, true, true, true, true, true, true, true, true, true, false, true, true, true, true, true, true, false, false, false] rfl rfl (HT.two (by kernel_rfl)) (by decide) (by decide) ?_ ?_
          ·skip
           refine stQ (wantN rfl) (fun t ht => by cases ht <;> decide) ?_
           refine qLit (l := [_]) rfl rfl (by decide) us_39 ty_9 ze_9 rfl (by decide) (by decide) rfl rfl rfl (fun b40 => ?_)
           refine undel (d := 40) rfl ?_
           refine eWeak (weak_settle (k := 40) rfl (by repeat constructor) (by first | (simp; done) | rfl)) (fun b hb => by simp [owns, HA.own] at hb ⊢; first | (rcases hb with h | h | h | h <;> simp [h]; done) | (rcases hb with h | h | h <;> simp [h]; done) | (rcases hb with h | h <;> simp [h]; done) | (simp [hb]; done)) ?_
           refine eOneS (i := 16) #[true, true, true, true, true, true, true, true, true, true, true, true, true, true, true, true, true, false, false, false] rfl (HT.one (by kernel_rfl)) (by decide) ?_
           ·skip
            refine stA (hx := [.know 1 (powO G.tp G.zp)]) (wantN rfl) (fun t ht => by cases ht <;> decide) (.cons (by repeat constructor) .nil) (by repeat constructor) ?_
            refine cai rfl rfl rfl (conf_nums_s (l := [x.ca, x.cb]) G (by simp) (fun z hz => by simp only [List.mem_cons, List.not_mem_nil, or_false] at hz; rcases hz with rfl | rfl <;> omega)) ?_
            refine undel (d := 46) rfl ?_
            try dsimp only [List.cons_append, List.nil_append]
            refine e1 HT 17 rfl ?_
            refine qLit (l := [_, _, _, _]) rfl rfl (by decide) us_60 ty_39 ze_39 rfl (by decide) (by decide) rfl rfl rfl (fun b47 => ?_)
            refine eWeak (weak_settle (k := 47) rfl (by repeat constructor) (by first | (simp; done) | rfl)) (fun b hb => by simp [owns, HA.own] at hb ⊢; first | (rcases hb with h | h | h | h <;> simp [h]; done) | (rcases hb with h | h | h <;> simp [h]; done) | (rcases hb with h | h <;> simp [h]; done) | (simp [hb]; done)) ?_
            refine eOneS (i := 18) #[true, true, true, true, true, true, true, true, true, true, true, true, true, true, true, true, true, true, true, false] rfl (HT.one (by kernel_rfl)) (by decide) ?_
            ·skip
             refine stA (hx := []) (wantN rfl) (fun t ht => by cases ht <;> decide) .nil (by repeat constructor) ?_
             first | refine coM rfl rfl rfl (concat_S (l := [[[119, 105, 114, 101]], [itoa x.a, itoa x.b], [howS x.u], [itoa x.ca, itoa x.cb]]) (by simp) (by simp)) (fun g48 k48 => ?_) | refine co rfl rfl rfl (concat_S (l := [[[119, 105, 114, 101]], [itoa x.a, itoa x.b], [howS x.u], [itoa x.ca, itoa x.cb]]) (by simp) (by simp)) (fun g48 k48 => ?_)
             refine undel (d := 48) rfl ?_
             try dsimp only [List.cons_append, List.nil_append]
             refine ef HT 19 rfl pMa ?_
             refine eE HT ?_
             clear HT
             refine ⟨(_, _), ?_, ⟨gLen rfl (by first | rfl | simp | (simp; omega)), rfl, rfl, rfl, rfl, trivial⟩, _, (by repeat constructor)⟩
             trivial
          ·skip
           refine stA (hx := [.know 1 (powO G.tp G.zp)]) (wantN rfl) (fun t ht => by cases ht <;> decide) (.cons (by repeat constructor) .nil) (by repeat constructor) ?_
           refine cai rfl rfl rfl (conf_nums_s (l := [x.ca, x.cb]) G (by simp) (fun z hz => by simp only [List.mem_cons, List.not_mem_nil, or_false] at hz; rcases hz with rfl | rfl <;> omega)) ?_
           refine undel (d := 46) rfl ?_
           try dsimp only [List.cons_append, List.nil_append]
           refine e1 HT 10 rfl ?_
           refine qLit (l := [_]) rfl rfl (by decide) us_39 ty_9 ze_9 rfl (by decide) (by decide) rfl rfl rfl (fun b40 => ?_)
           refine eWeak (weak_settle (k := 40) rfl (by repeat constructor) (by first | (simp; done) | rfl)) (fun b hb => by simp [owns, HA.own] at hb ⊢; first | (rcases hb with h | h | h | h <;> simp [h]; done) | (rcases hb with h | h | h <;> simp [h]; done) | (rcases hb with h | h <;> simp [h]; done) | (simp [hb]; done)) ?_
           refine e1 HT 17 rfl ?_
           refine qLit (l := [_, _, _, _]) rfl rfl (by decide) us_60 ty_39 ze_39 rfl (by decide) (by decide) rfl rfl rfl (fun b47 => ?_)
           refine eWeak (weak_settle (k := 47) rfl (by repeat constructor) (by first | (simp; done) | rfl)) (fun b hb => by simp [owns, HA.own] at hb ⊢; first | (rcases hb with h | h | h | h <;> simp [h]; done) | (rcases hb with h | h | h <;> simp [h]; done) | (rcases hb with h | h <;> simp [h]; done) | (simp [hb]; done)) ?_
           refine eOneS (i := 18) #[true, true, true, true, true, true, true, true, true, true, true, true, true, true, true, true, true, true, true, false] rfl (HT.one (by kernel_rfl)) (by decide) ?_
           ·skip
            refine stA (hx := []) (wantN rfl) (fun t ht => by cases ht <;> decide) .nil (by repeat constructor) ?_
            first | refine coM rfl rfl rfl (concat_S (l := [[[119, 105, 114, 101]], [itoa x.a, itoa x.b], [howS x.u], [itoa x.ca, itoa x.cb]]) (by simp) (by simp)) (fun g48 k48 => ?_) | refine co rfl rfl rfl (concat_S (l := [[[119, 105, 114, 101]], [itoa x.a, itoa x.b], [howS x.u], [itoa x.ca, itoa x.cb]]) (by simp) (by simp)) (fun g48 k48 => ?_)
            refine undel (d := 48) rfl ?_
            try dsimp only [List.cons_append, List.nil_append]
            refine ef HT 19 rfl pMa ?_
            refine eE HT ?_
            clear HT
            refine ⟨(_, _), ?_, ⟨gLen rfl (by first | rfl | simp | (simp; omega)), rfl, rfl, rfl, rfl, trivial⟩, _, (by repeat constructor)⟩
            trivial
        ·skip
         refine stQ (wantN rfl) (fun t ht => by cases ht <;> decide) ?_
         refine qLit (l := [_]) rfl rfl (by decide) us_39 ty_9 ze_9 rfl (by decide) (by decide) rfl rfl rfl (fun b40 => ?_)
         refine undel (d := 40) rfl ?_
         refine eWeak (weak_settle (k := 40) rfl (by repeat constructor) (by first | (simp; done) | rfl)) (fun b hb => by simp [owns, HA.own] at hb ⊢; first | (rcases hb with h | h | h | h <;> simp [h]; done) | (rcases hb with h | h | h <;> simp [h]; done) | (rcases hb with h | h <;> simp [h]; done) | (simp [hb]; done)) ?_
         refine eTwoS (i := 0) (j := 15) #[true, true, true, true, true, true, true, true, true, true, true, true, true, true, true, false, false, false, false, false] #[false, true, true, true, true, true, true, true, true, true, true, true, true, true, true, true, false, false, false, false] rfl rfl (HT.two (by kernel_rfl)) (by decide) (by decide) ?_ ?_
         ·skip
          refine stQ (wantN rfl) (fun t ht => by cases ht <;> decide) ?_
          refine qLit (l := [_]) rfl rfl (by decide) us_39 ty_9 ze_9 rfl (by decide) (by decide) rfl rfl rfl (fun b30 => ?_)
          refine undel (d := 30) rfl ?_
          refine eWeak (weak_settle (k := 30) rfl (by repeat constructor) (by first | (simp; done) | rfl)) (fun b hb => by simp [owns, HA.own] at hb ⊢; first | (rcases hb with h | h | h | h <;> simp [h]; done) | (rcases hb with h | h | h <;> simp [h]; done) | (rcases hb with h | h <;> simp [h]; done) | (simp [hb]; done)) ?_
          refine e1 HT 15 rfl ?_
          refine qLit (l := [_, _]) rfl rfl (by decide) us_62 ty_3 ze_3 rfl (by decide) (by decide) rfl rfl rfl (fun b45 => ?_)
          refine eWeak (weak_settle (k := 45) rfl (by repeat constructor) (by first | (simp; done) | rfl)) (fun b hb => by simp [owns, HA.own] at hb ⊢; first | (rcases hb with h | h | h | h <;> simp [h]; done) | (rcases hb with h | h | h <;> simp [h]; done) | (rcases hb with h | h <;> simp [h]; done) | (simp [hb]; done)) ?_
          refine eOneS (i := 16) #[true, true, true, true, true, true, true, true, true, true, true, true, true, true, true, true, true, false, false, false] rfl (HT.one (by kernel_rfl)) (by decide) ?_
          ·skip
           refine stA (hx := [.know 1 (powO G.tp G.zp)]) (wantN rfl) (fun t ht => by cases ht <;> decide) (.cons (by repeat constructor) .nil) (by repeat constructor) ?_
           refine cai rfl rfl rfl (conf_nums_s (l := [x.ca, x.cb]) G (by simp) (fun z hz => by simp only [List.mem_cons, List.not_mem_nil, or_false] at hz; rcases hz with rfl | rfl <;> omega)) ?_
           refine undel (d := 46) rfl ?_
           try dsimp only [List.cons_append, List.nil_append]
           refine e1 HT 17 rfl ?_
           refine qLit (l := [_, _, _, _]) rfl rfl (by decide) us_60 ty_39 ze_39 rfl (by decide) (by decide) rfl rfl rfl (fun b47 => ?_)
           refine eWeak (weak_settle (k := 47) rfl (by repeat constructor) (by first | (simp; done) | rfl)) (fun b hb => by simp [owns, HA.own] at hb ⊢; first | (rcases hb with h | h | h | h <;> simp [h]; done) | (rcases hb with h | h | h <;> simp [h]; done) | (rcases hb with h | h <;> simp [h]; done) | (simp [hb]; done)) ?_
           refine eOneS (i := 18) #[true, true, true, true, true, true, true, true, true, true, true, true, true, true, true, true, true, true, true, false] rfl (HT.one (by kernel_rfl)) (by decide) ?_
           ·skip
            refine stA (hx := []) (wantN rfl) (fun t ht => by cases ht <;> decide) .nil (by repeat constructor) ?_
            first | refine coM rfl rfl rfl (concat_S (l := [[[119, 105, 114, 101]], [itoa x.a, itoa x.b], [howS x.u], [itoa x.ca, itoa x.cb]]) (by simp) (by simp)) (fun g48 k48 => ?_) | refine co rfl rfl rfl (concat_S (l := [[[119, 105, 114, 101]], [itoa x.a, itoa x.b], [howS x.u], [itoa x.ca, itoa x.cb]]) (by simp) (by simp)) (fun g48 k48 => ?_)
            refine undel (d := 48) rfl ?_
            try dsimp only [List.cons_append, List.nil_append]
            refine ef HT 19 rfl pMa ?_
            refine eE HT ?_
            clear HT
            refine ⟨(_, _), ?_, ⟨gLen rfl (by first | rfl | simp | (simp; omega)), rfl, rfl, rfl, rfl, trivial⟩, _, (by repeat constructor)⟩
            trivial
         ·skip
          refine stQ (wantN rfl) (fun t ht => by cases ht <;> decide) ?_
          refine qLit (l := [_, _]) rfl rfl (by decide) us_62 ty_3 ze_3 rfl (by decide) (by decide) rfl rfl rfl (fun b45 => ?_)
          refine undel (d := 45) rfl ?_
          refine eWeak (weak_settle (k := 45) rfl (by repeat constructor) (by first | (simp; done) | rfl)) (fun b hb => by simp [owns, HA.own] at hb ⊢; first | (rcases hb with h | h | h | h <;> simp [h]; done) | (rcases hb with h | h | h <;> simp [h]; done) | (rcases hb with h | h <;> simp [h]; done) | (simp [hb]; done)) ?_
          refine eTwoS (i := 0) (j := 16) #[true, true, true, true, true, true, true, true, true, true, true, true, true, true, true, true, false, false, false, false] #[false, true, true, true, true, true, true, true, true, true, true, true, true, true, true, true, true, false, false, false] rfl rfl (HT.two (by kernel_rfl)) (by decide) (by decide) ?_ ?_
          ·skip
           refine stQ (wantN rfl) (fun t ht => by cases ht <;> decide) ?_
           refine qLit (l := [_]) rfl rfl (by decide) us_39 ty_9 ze_9 rfl (by decide) (by decide) rfl rfl rfl (fun b30 => ?_)
           refine undel (d := 30) rfl ?_
           refine eWeak (weak_settle (k := 30) rfl (by repeat constructor) (by first | (simp; done) | rfl)) (fun b hb => by simp [owns, HA.own] at hb ⊢; first | (rcases hb with h | h | h | h <;> simp [h]; done) | (rcases hb with h | h | h <;> simp [h]; done) | (rcases hb with h | h <;> simp [h]; done) | (simp [hb]; done)) ?_
           refine eOneS (i := 16) #[true, true, true, true, true, true, true, true, true, true, true, true, true, true, true, true, true, false, false, false] rfl (HT.one (by kernel_rfl)) (by decide) ?_
           ·skip
            refine stA (hx := [.know 1 (powO G.tp G.zp)]) (wantN rfl) (fun t ht => by cases ht <;> decide) (.cons (by repeat constructor) .nil) (by repeat constructor) ?_
            refine cai rfl rfl rfl (conf_nums_s (l := [x.ca, x.cb]) G (by simp) (fun z hz => by simp only [List.mem_cons, List.not_mem_nil, or_false] at hz; rcases hz with rfl | rfl <;> omega)) ?_
            refine undel (d := 46) rfl ?_
            try dsimp only [List.cons_append, List.nil_append]
            refine e1 HT 17 rfl ?_
            refine qLit (l := [_, _, _, _]) rfl rfl (by decide) us_60 ty_39 ze_39 rfl (by decide) (by decide) rfl rfl rfl (fun b47 => ?_)
            refine eWeak (weak_settle (k := 47) rfl (by repeat constructor) (by first | (simp; done) | rfl)) (fun b hb => by simp [owns, HA.own] at hb ⊢; first | (rcases hb with h | h | h | h <;> simp [h]; done) | (rcases hb with h | h | h <;> simp [h]; done) | (rcases hb with h | h <;> simp [h]; done) | (simp [hb]; done)) ?_
            refine eOneS (i := 18) #[true, true, true, true, true, true, true, true, true, true, true, true, true, true, true, true, true, true, true, false] rfl (HT.one (by kernel_rfl)) (by decide) ?_
            ·skip
             refine stA (hx := []) (wantN rfl) (fun t ht => by cases ht <;> decide) .nil (by repeat constructor) ?_
             first | refine coM rfl rfl rfl (concat_S (l := [[[119, 105, 114, 101]], [itoa x.a, itoa x.b], [howS x.u], [itoa x.ca, itoa x.cb]]) (by simp) (by simp)) (fun g48 k48 => ?_) | refine co rfl rfl rfl (concat_S (l := [[[119, 105, 114, 101]], [itoa x.a, itoa x.b], [howS x.u], [itoa x.ca, itoa x.cb]]) (by simp) (by simp)) (fun g48 k48 => ?_)
             refine undel (d := 48) rfl ?_
             try dsimp only [List.cons_append, List.nil_append]
             refine ef HT 19 rfl pMa ?_
             refine eE HT ?_
             clear HT
             refine ⟨(_, _), ?_, ⟨gLen rfl (by first | rfl | simp | (simp; omega)), rfl, rfl, rfl, rfl, trivial⟩, _, (by repeat constructor)⟩
             trivial
          ·skip
           refine stA (hx := [.know 1 (powO G.tp G.zp)]) (wantN rfl) (fun t ht => by cases ht <;> decide) (.cons (by repeat constructor) .nil) (by repeat constructor) ?_
           refine cai rfl rfl rfl (conf_nums_s (l := [x.ca, x.cb]) G (by simp) (fun z hz => by simp only [List.mem_cons, List.not_mem_nil, or_false] at hz; rcases hz with rfl | rfl <;> omega)) ?_
           refine undel (d := 46) rfl ?_
           try dsimp only [List.cons_append, List.nil_append]
           refine e1 HT 0 rfl ?_
           refine qLit (l := [_]) rfl rfl (by decide) us_39 ty_9 ze_9 rfl (by decide) (by decide) rfl rfl rfl (fun b30 => ?_)
           refine eWeak (weak_settle (k := 30) rfl (by repeat constructor) (by first | (simp; done) | rfl)) (fun b hb => by simp [owns, HA.own] at hb ⊢; first | (rcases hb with h | h | h | h <;> simp [h]; done) | (rcases hb with h | h | h <;> simp [h]; done) | (rcases hb with h | h <;> simp [h]; done) | (simp [hb]; done)) ?_
           refine e1 HT 17 rfl ?_
           refine qLit (l := [_, _, _, _]) rfl rfl (by decide) us_60 ty_39 ze_39 rfl (by decide) (by decide) rfl rfl rfl (fun b47 => ?_)
           refine eWeak (weak_settle (k := 47) rfl (by repeat constructor) (by first | (simp; done) | rfl)) (fun b hb => by simp [owns, HA.own] at hb ⊢; first | (rcases hb with h | h | h | h <;> simp [h]; done) | (rcases hb with h | h | h <;> simp [h]; done) | (rcases hb with h | h <;> simp [h]; done) | (simp [hb]; done)) ?_
           refine eOneS (i := 18) #[true, true, true, true, true, true, true, true, true, true, true, true, true, true, true, true, true, true, true, false] rfl (HT.one (by kernel_rfl)) (by decide) ?_
           ·skip
            refine stA (hx := []) (wantN rfl) (fun t ht => by cases ht <;> decide) .nil (by repeat constructor) ?_
            first | refine coM rfl rfl rfl (concat_S (l := [[[119, 105, 114, 101]], [itoa x.a, itoa x.b], [howS x.u], [itoa x.ca, itoa x.cb]]) (by simp) (by simp)) (fun g48 k48 => ?_) | refine co rfl rfl rfl (concat_S (l := [[[119, 105, 114, 101]], [itoa x.a, itoa x.b], [howS x.u], [itoa x.ca, itoa x.cb]]) (by simp) (by simp)) (fun g48 k48 => ?_)
            refine undel (d := 48) rfl ?_
            try dsimp only [List.cons_append, List.nil_append]
            refine ef HT 19 rfl pMa ?_
            refine eE HT ?_
            clear HT
            refine ⟨(_, _), ?_, ⟨gLen rfl (by first | rfl | simp | (simp; omega)), rfl, rfl, rfl, rfl, trivial⟩, _, (by repeat constructor)⟩
            trivial
        ·skip
         refine stQ (wantN rfl) (fun t ht => by cases ht <;> decide) ?_
         refine qLit (l := [_, _]) rfl rfl (by decide) us_62 ty_3 ze_3 rfl (by decide) (by decide) rfl rfl rfl (fun b45 => ?_)
         refine undel (d := 45) rfl ?_
         refine eWeak (weak_settle (k := 45) rfl (by repeat constructor) (by first | (simp; done) | rfl)) (fun b hb => by simp [owns, HA.own] at hb ⊢; first | (rcases hb with h | h | h | h <;> simp [h]; done) | (rcases hb with h | h | h <;> simp [h]; done) | (rcases hb with h | h <;> simp [h]; done) | (simp [hb]; done)) ?_
         refine eThreeS (i := 0) (j := 10) (k := 16) #[true, true, true, true, true, true, true, true, true, true, false, true, true, true, true, true, false, false, false, false] #[false, true, true, true, true, true, true, true, true, true, true, true, true, true, true, true, false, false, false, false] #[false, true, true, true, true, true, true, true, true, true, false, true, true, true, true, true, true, false, false, false] rfl rfl rfl (HT.three (by kernel_rfl)) (by decide) (by decide) (by decide) ?_ ?_ ?_
         ·skip
          refine stQ (wantN rfl) (fun t ht => by cases ht <;> decide) ?_
          refine qLit (l := [_]) rfl rfl (by decide) us_39 ty_9 ze_9 rfl (by decide) (by decide) rfl rfl rfl (fun b30 => ?_)
          refine undel (d := 30) rfl ?_
          refine eWeak (weak_settle (k := 30) rfl (by repeat constructor) (by first | (simp; done) | rfl)) (fun b hb => by simp [owns, HA.own] at hb ⊢; first | (rcases hb with h | h | h | h <;> simp [h]; done) | (rcases hb with h | h | h <;> simp [h]; done) | (rcases hb with h | h <;> simp [h]; done) | (simp [hb]; done)) ?_
          refine eTwoS (i := 10) (j := 16) #[true, true, true, true, true, true, true, true, true, true, true, true, true, true, true, true, false, false, false, false] #[true, true, true, true, true, true, true, true, true, true, false, true, true, true, true, true, true, false, false, false] rfl rfl (HT.two (by kernel_rfl)) (by decide) (by decide) ?_ ?_
          ·skip
           refine stQ (wantN rfl) (fun t ht => by cases ht <;> decide) ?_
           refine qLit (l := [_]) rfl rfl (by decide) us_39 ty_9 ze_9 rfl (by decide) (by decide) rfl rfl rfl (fun b40 => ?_)
           refine undel (d := 40) rfl ?_
           refine eWeak (weak_settle (k := 40) rfl (by repeat constructor) (by first | (simp; done) | rfl)) (fun b hb => by simp [owns, HA.own] at hb ⊢; first | (rcases hb with h | h | h | h <;> simp [h]; done) | (rcases hb with h | h | h <;> simp [h]; done) | (rcases hb with h | h <;> simp [h]; done) | (simp [hb]; done)) ?_
           refine eOneS (i := 16) #[true, true, true, true, true, true, true, true, true, true, true, true, true, true, true, true, true, false, false, false] rfl (HT.one (by kernel_rfl)) (by decide) ?_
           ·skip
            refine stA (hx := [.know 1 (powO G.tp G.zp)]) (wantN rfl) (fun t ht => by cases ht <;> decide) (.cons (by repeat constructor) .nil) (by repeat constructor) ?_
            refine cai rfl rfl rfl (conf_nums_s (l := [x.ca, x.cb]) G (by simp) (fun z hz => by simp only [List.mem_cons, List.not_mem_nil, or_false] at hz; rcases hz with rfl | rfl <;> omega)) ?_
            refine undel (d := 46) rfl ?_
            try dsimp only [List.cons_append, List.nil_append]
            refine e1 HT 17 rfl ?_
            refine qLit (l := [_, _, _, _]) rfl rfl (by decide) us_60 ty_39 ze_39 rfl (by decide) (by decide) rfl rfl rfl (fun b47 => ?_)
            refine eWeak (weak_settle (k := 47) rfl (by repeat constructor) (by first | (simp; done) | rfl)) (fun b hb => by simp [owns, HA.own] at hb ⊢; first | (rcases hb with h | h | h | h <;> simp [h]; done) | (rcases hb with h | h | h <;> simp [h]; done) | (rcases hb with h | h <;> simp [h]; done) | (simp [hb]; done)) ?_
            refine eOneS (i := 18) #[true, true, true, true, true, true, true, true, true, true, true, true, true, true, true, true, true, true, true, false] rfl (HT.one (by kernel_rfl)) (by decide) ?_
            ·skip
             refine stA (hx := []) (wantN rfl) (fun t ht => by cases ht <;> decide) .nil (by repeat constructor) ?_
             first | refine coM rfl rfl rfl (concat_S (l := [[[119, 105, 114, 101]], [itoa x.a, itoa x.b], [howS x.u], [itoa x.ca, itoa x.cb]]) (by simp) (by simp)) (fun g48 k48 => ?_) | refine co rfl rfl rfl (concat_S (l := [[[119, 105, 114, 101]], [itoa x.a, itoa x.b], [howS x.u], [itoa x.ca, itoa x.cb]]) (by simp) (by simp)) (fun g48 k48 => ?_)
             refine undel (d := 48) rfl ?_
             try dsimp only [List.cons_append, List.nil_append]
             refine ef HT 19 rfl pMa ?_
             refine eE HT ?_
             clear HT
             refine ⟨(_, _), ?_, ⟨gLen rfl (by first | rfl | simp | (simp; omega)), rfl, rfl, rfl, rfl, trivial⟩, _, (by repeat constructor)⟩
             trivial
          ·skip
           refine stA (hx := [.know 1 (powO G.tp G.zp)]) (wantN rfl) (fun t ht => by cases ht <;> decide) (.cons (by repeat constructor) .nil) (by repeat constructor) ?_
           refine cai rfl rfl rfl (conf_nums_s (l := [x.ca, x.cb]) G (by simp) (fun z hz => by simp only [List.mem_cons, List.not_mem_nil, or_false] at hz; rcases hz with rfl | rfl <;> omega)) ?_
           refine undel (d := 46) rfl ?_
           try dsimp only [List.cons_append, List.nil_append]
           refine e1 HT 10 rfl ?_
           refine qLit (l := [_]) rfl rfl (by decide) us_39 ty_9 ze_9 rfl (by decide) (by decide) rfl rfl rfl (fun b40 => ?_)
           refine eWeak (weak_settle (k := 40) rfl (by repeat constructor) (by first | (simp; done) | rfl)) (fun b hb => by simp [owns, HA.own] at hb ⊢; first | (rcases hb with h | h | h | h <;> simp [h]; done) | (rcases hb with h | h | h <;> simp [h]; done) | (rcases hb with h | h <;> simp [h]; done) | (simp [hb]; done)) ?_
           refine e1 HT 17 rfl ?_
           refine qLit (l := [_, _, _, _]) rfl rfl (by decide) us_60 ty_39 ze_39 rfl (by decide) (by decide) rfl rfl rfl (fun b47 => ?_)
           refine eWeak (weak_settle (k := 47) rfl (by repeat constructor) (by first | (simp; done) | rfl)) (fun b hb => by simp [owns, HA.own] at hb ⊢; first | (rcases hb with h | h | h | h <;> simp [h]; done) | (rcases hb with h | h | h <;> simp [h]; done) | (rcases hb with h | h <;> simp [h]; done) | (simp [hb]; done)) ?_
           refine eOneS (i := 18) #[true, true, true, true, true, true, true, true, true, true, true, true, true, true, true, true, true, true, true, false] rfl (HT.one (by kernel_rfl)) (by decide) ?_
           ·skip
            refine stA (hx := []) (wantN rfl) (fun t ht => by cases ht <;> decide) .nil (by repeat constructor) ?_
            first | refine coM rfl rfl rfl (concat_S (l := [[[119, 105, 114, 101]], [itoa x.a, itoa x.b], [howS x.u], [itoa x.ca, itoa x.cb]]) (by simp) (by simp)) (fun g48 k48 => ?_) | refine co rfl rfl rfl (concat_S (l := [[[119, 105, 114, 101]], [itoa x.a, itoa x.b], [howS x.u], [itoa x.ca, itoa x.cb]]) (by simp) (by simp)) (fun g48 k48 => ?_)
            refine undel (d := 48) rfl ?_
            try dsimp only [List.cons_append, List.nil_append]
            refine ef HT 19 rfl pMa ?_
            refine eE HT ?_
            clear HT
            refine ⟨(_, _), ?_, ⟨gLen rfl (by first | rfl | simp | (simp; omega)), rfl, rfl, rfl, rfl, trivial⟩, _, (by repeat constructor)⟩
            trivial
         ·skip
          refine stQ (wantN rfl) (fun t ht => by cases ht <;> decide) ?_
          refine qLit (l := [_]) rfl rfl (by decide) us_39 ty_9 ze_9 rfl (by decide) (by decide) rfl rfl rfl (fun b40 => ?_)
          refine undel (d := 40) rfl ?_
          refine eWeak (weak_settle (k := 40) rfl (by repeat constructor) (by first | (simp; done) | rfl)) (fun b hb => by simp [owns, HA.own] at hb ⊢; first | (rcases hb with h | h | h | h <;> simp [h]; done) | (rcases hb with h | h | h <;> simp [h]; done) | (rcases hb with h | h <;> simp [h]; done) | (simp [hb]; done)) ?_
          refine eTwoS (i := 0) (j := 16) #[true, true, true, true, true, true, true, true, true, true, true, true, true, true, true, true, false, false, false, false] #[false, true, true, true, true, true, true, true, true, true, true, true, true, true, true, true, true, false, false, false] rfl rfl (HT.two (by kernel_rfl)) (by decide) (by decide) ?_ ?_
          ·skip
           refine stQ (wantN rfl) (fun t ht => by cases ht <;> decide) ?_
           refine qLit (l := [_]) rfl rfl (by decide) us_39 ty_9 ze_9 rfl (by decide) (by decide) rfl rfl rfl (fun b30 => ?_)
           refine undel (d := 30) rfl ?_
           refine eWeak (weak_settle (k := 30) rfl (by repeat constructor) (by first | (simp; done) | rfl)) (fun b hb => by simp [owns, HA.own] at hb ⊢; first | (rcases hb with h | h | h | h <;> simp [h]; done) | (rcases hb with h | h | h <;> simp [h]; done) | (rcases hb with h | h <;> simp [h]; done) | (simp [hb]; done)) ?_
           refine eOneS (i := 16) #[true, true, true, true, true, true, true, true, true, true, true, true, true, true, true, true, true, false, false, false] rfl (HT.one (by kernel_rfl)) (by decide) ?_
           ·skip
            refine stA (hx := [.know 1 (powO G.tp G.zp)]) (wantN rfl) (fun t ht => by cases ht <;> decide) (.cons (by repeat constructor) .nil) (by repeat constructor) ?_
            refine cai rfl rfl rfl (conf_nums_s (l := [x.ca, x.cb]) G (by simp) (fun z hz => by simp only [List.mem_cons, List.not_mem_nil, or_false] at hz; rcases hz with rfl | rfl <;> omega)) ?_
            refine undel (d := 46) rfl ?_
            try dsimp only [List.cons_append, List.nil_append]
            refine e1 HT 17 rfl ?_
            refine qLit (l := [_, _, _, _]) rfl rfl (by decide) us_60 ty_39 ze_39 rfl (by decide) (by decide) rfl rfl rfl (fun b47 => ?_)
            refine eWeak (weak_settle (k := 47) rfl (by repeat constructor) (by first | (simp; done) | rfl)) (fun b hb => by simp [owns, HA.own] at hb ⊢; first | (rcases hb with h | h | h | h <;> simp [h]; done) | (rcases hb with h | h | h <;> simp [h]; done) | (rcases hb with h | h <;> simp [h]; done) | (simp [hb]; done)) ?_
            refine eOneS (i := 18) #[true, true, true, true, true, true, true, true, true, true, true, true, true, true, true, true, true, true, true, false] rfl (HT.one (by kernel_rfl)) (by decide) ?_
            ·skip
             refine stA (hx := []) (wantN rfl) (fun t ht => by cases ht <;> decide) .nil (by repeat constructor) ?_
             first | refine coM rfl rfl rfl (concat_S (l := [[[119, 105, 114, 101]], [itoa x.a, itoa x.b], [howS x.u], [itoa x.ca, itoa x.cb]]) (by simp) (by simp)) (fun g48 k48 => ?_) | refine co rfl rfl rfl (concat_S (l := [[[119, 105, 114, 101]], [itoa x.a, itoa x.b], [howS x.u], [itoa x.ca, itoa x.cb]]) (by simp) (by simp)) (fun g48 k48 => ?_)
             refine undel (d := 48) rfl ?_
             try dsimp only [List.cons_append, List.nil_append]
             refine ef HT 19 rfl pMa ?_
             refine eE HT ?_
             clear HT
             refine ⟨(_, _), ?_, ⟨gLen rfl (by first | rfl | simp | (simp; omega)), rfl, rfl, rfl, rfl, trivial⟩, _, (by repeat constructor)⟩
             trivial
          ·skip
           refine stA (hx := [.know 1 (powO G.tp G.zp)]) (wantN rfl) (fun t ht => by cases ht <;> decide) (.cons (by repeat constructor) .nil) (by repeat constructor) ?_
           refine cai rfl rfl rfl (conf_nums_s (l := [x.ca, x.cb]) G (by simp) (fun z hz => by simp only [List.mem_cons, List.not_mem_nil, or_false] at hz; rcases hz with rfl | rfl <;> omega)) ?_
           refine undel (d := 46) rfl ?_
           try dsimp only [List.cons_append, List.nil_append]
           refine e1 HT 0 rfl ?_
           refine qLit (l := [_]) rfl rfl (by decide) us_39 ty_9 ze_9 rfl (by decide) (by decide) rfl rfl rfl (fun b30 => ?_)
           refine eWeak (weak_settle (k := 30) rfl (by repeat constructor) (by first | (simp; done) | rfl)) (fun b hb => by simp [owns, HA.own] at hb ⊢; first | (rcases hb with h | h | h | h <;> simp [h]; done) | (rcases hb with h | h | h <;> simp [h]; done) | (rcases hb with h | h <;> simp [h]; done) | (simp [hb]; done)) ?_
           refine e1 HT 17 rfl ?_
           refine qLit (l := [_, _, _, _]) rfl rfl (by decide) us_60 ty_39 ze_39 rfl (by decide) (by decide) rfl rfl rfl (fun b47 => ?_)
           refine eWeak (weak_settle (k := 47) rfl (by repeat constructor) (by first | (simp; done) | rfl)) (fun b hb => by simp [owns, HA.own] at hb ⊢; first | (rcases hb with h | h | h | h <;> simp [h]; done) | (rcases hb with h | h | h <;> simp [h]; done) | (rcases hb with h | h <;> simp [h]; done) | (simp [hb]; done)) ?_
           refine eOneS (i := 18) #[true, true, true, true, true, true, true, true, true, true, true, true, true, true, true, true, true, true, true, false] rfl (HT.one (by kernel_rfl)) (by decide) ?_
           ·skip
            refine stA (hx := []) (wantN rfl) (fun t ht => by cases ht <;> decide) .nil (by repeat constructor) ?_
            first | refine coM rfl rfl rfl (concat_S (l := [[[119, 105, 114, 101]], [itoa x.a, itoa x.b], [howS x.u], [itoa x.ca, itoa x.cb]]) (by simp) (by simp)) (fun g48 k48 => ?_) | refine co rfl rfl rfl (concat_S (l := [[[119, 105, 114, 101]], [itoa x.a, itoa x.b], [howS x.u], [itoa x.ca, itoa x.cb]]) (by simp) (by simp)) (fun g48 k48 => ?_)
            refine undel (d := 48) rfl ?_
            try dsimp only [List.cons_append, List.nil_append]
            refine ef HT 19 rfl pMa ?_
            refine eE HT ?_
            clear HT
            refine ⟨(_, _), ?_, ⟨gLen rfl (by first | rfl | simp | (simp; omega)), rfl, rfl, rfl, rfl, trivial⟩, _, (by repeat constructor)⟩
            trivial
         ·skip
          refine stA (hx := [.know 1 (powO G.tp G.zp)]) (wantN rfl) (fun t ht => by cases ht <;> decide) (.cons (by repeat constructor) .nil) (by repeat constructor) ?_
          refine cai rfl rfl rfl (conf_nums_s (l := [x.ca, x.cb]) G (by simp) (fun z hz => by simp only [List.mem_cons, List.not_mem_nil, or_false] at hz; rcases hz with rfl | rfl <;> omega)) ?_
          refine undel (d := 46) rfl ?_
          try dsimp only [List.cons_append, List.nil_append]
          refine eTwoS (i := 0) (j := 10) #[true, true, true, true, true, true, true, true, true, true, false, true, true, true, true, true, true, false, false, false] #[false, true, true, true, true, true, true, true, true, true, true, true, true, true, true, true, true, false, false, false] rfl rfl (HT.two (by kernel_rfl)) (by decide) (by decide) ?_ ?_
          ·skip
           refine stQ (wantN rfl) (fun t ht => by cases ht <;> decide) ?_
           refine qLit (l := [_]) rfl rfl (by decide) us_39 ty_9 ze_9 rfl (by decide) (by decide) rfl rfl rfl (fun b30 => ?_)
           refine undel (d := 30) rfl ?_
           refine eWeak (weak_settle (k := 30) rfl (by repeat constructor) (by first | (simp; done) | rfl)) (fun b hb => by simp [owns, HA.own] at hb ⊢; first | (rcases hb with h | h | h | h <;> simp [h]; done) | (rcases hb with h | h | h <;> simp [h]; done) | (rcases hb with h | h <;> simp [h]; done) | (simp [hb]; done)) ?_
           refine e1 HT 10 rfl ?_
           refine qLit (l := [_]) rfl rfl (by decide) us_39 ty_9 ze_9 rfl (by decide) (by decide) rfl rfl rfl (fun b40 => ?_)
           refine eWeak (weak_settle (k := 40) rfl (by repeat constructor) (by first | (simp; done) | rfl)) (fun b hb => by simp [owns, HA.own] at hb ⊢; first | (rcases hb with h | h | h | h <;> simp [h]; done) | (rcases hb with h | h | h <;> simp [h]; done) | (rcases hb with h | h <;> simp [h]; done) | (simp [hb]; done)) ?_
           refine e1 HT 17 rfl ?_
           refine qLit (l := [_, _, _, _]) rfl rfl (by decide) us_60 ty_39 ze_39 rfl (by decide) (by decide) rfl rfl rfl (fun b47 => ?_)
           refine eWeak (weak_settle (k := 47) rfl (by repeat constructor) (by first | (simp; done) | rfl)) (fun b hb => by simp [owns, HA.own] at hb ⊢; first | (rcases hb with h | h | h | h <;> simp [h]; done) | (rcases hb with h | h | h <;> simp [h]; done) | (rcases hb with h | h <;> simp [h]; done) | (simp [hb]; done)) ?_
           refine eOneS (i := 18) #[true, true, true, true, true, true, true, true, true, true, true, true, true, true, true, true, true, true, true, false] rfl (HT.one (by kernel_rfl)) (by decide) ?_
           ·skip
            refine stA (hx := []) (wantN rfl) (fun t ht => by cases ht <;> decide) .nil (by repeat constructor) ?_
            first | refine coM rfl rfl rfl (concat_S (l := [[[119, 105, 114, 101]], [itoa x.a, itoa x.b], [howS x.u], [itoa x.ca, itoa x.cb]]) (by simp) (by simp)) (fun g48 k48 => ?_) | refine co rfl rfl rfl (concat_S (l := [[[119, 105, 114, 101]], [itoa x.a, itoa x.b], [howS x.u], [itoa x.ca, itoa x.cb]]) (by simp) (by simp)) (fun g48 k48 => ?_)
            refine undel (d := 48) rfl ?_
            try dsimp only [List.cons_append, List.nil_append]
            refine ef HT 19 rfl pMa ?_
            refine eE HT ?_
            clear HT
            refine ⟨(_, _), ?_, ⟨gLen rfl (by first | rfl | simp | (simp; omega)), rfl, rfl, rfl, rfl, trivial⟩, _, (by repeat constructor)⟩
            trivial
          ·skip
           refine stQ (wantN rfl) (fun t ht => by cases ht <;> decide) ?_
           refine qLit (l := [_]) rfl rfl (by decide) us_39 ty_9 ze_9 rfl (by decide) (by decide) rfl rfl rfl (fun b40 => ?_)
           refine undel (d := 40) rfl ?_
           refine eWeak (weak_settle (k := 40) rfl (by repeat constructor) (by first | (simp; done) | rfl)) (fun b hb => by simp [owns, HA.own] at hb ⊢; first | (rcases hb with h | h | h | h <;> simp [h]; done) | (rcases hb with h | h | h <;> simp [h]; done) | (rcases hb with h | h <;> simp [h]; done) | (simp [hb]; done)) ?_
           refine e1 HT 0 rfl ?_
           refine qLit (l := [_]) rfl rfl (by decide) us_39 ty_9 ze_9 rfl (by decide) (by decide) rfl rfl rfl (fun b30 => ?_)
           refine eWeak (weak_settle (k := 30) rfl (by repeat constructor) (by first | (simp; done) | rfl)) (fun b hb => by simp [owns, HA.own] at hb ⊢; first | (rcases hb with h | h | h | h <;> simp [h]; done) | (rcases hb with h | h | h <;> simp [h]; done) | (rcases hb with h | h <;> simp [h]; done) | (simp [hb]; done)) ?_
           refine e1 HT 17 rfl ?_
           refine qLit (l := [_, _, _, _]) rfl rfl (by decide) us_60 ty_39 ze_39 rfl (by decide) (by decide) rfl rfl rfl (fun b47 => ?_)
           refine eWeak (weak_settle (k := 47) rfl (by repeat constructor) (by first | (simp; done) | rfl)) (fun b hb => by simp [owns, HA.own] at hb ⊢; first | (rcases hb with h | h | h | h <;> simp [h]; done) | (rcases hb with h | h | h <;> simp [h]; done) | (rcases hb with h | h <;> simp [h]; done) | (simp [hb]; done)) ?_
           refine eOneS (i := 18) #[true, true, true, true, true, true, true, true, true, true, true, true, true, true, true, true, true, true, true, false] rfl (HT.one (by kernel_rfl)) (by decide) ?_
           ·skip
            refine stA (hx := []) (wantN rfl) (fun t ht => by cases ht <;> decide) .nil (by repeat constructor) ?_
            first | refine coM rfl rfl rfl (concat_S (l := [[[119, 105, 114, 101]], [itoa x.a, itoa x.b], [howS x.u], [itoa x.ca, itoa x.cb]]) (by simp) (by simp)) (fun g48 k48 => ?_) | refine co rfl rfl rfl (concat_S (l := [[[119, 105, 114, 101]], [itoa x.a, itoa x.b], [howS x.u], [itoa x.ca, itoa x.cb]]) (by simp) (by simp)) (fun g48 k48 => ?_)
            refine undel (d := 48) rfl ?_
            try dsimp only [List.cons_append, List.nil_append]
            refine ef HT 19 rfl pMa ?_
            refine eE HT ?_
            clear HT
            refine ⟨(_, _), ?_, ⟨gLen rfl (by first | rfl | simp | (simp; omega)), rfl, rfl, rfl, rfl, trivial⟩, _, (by repeat constructor)⟩
            trivial
       ·skip
        refine stQ (wantN rfl) (fun t ht => by cases ht <;> decide) ?_
        refine qLit (l := [_, _]) rfl rfl (by decide) us_62 ty_3 ze_3 rfl (by decide) (by decide) rfl rfl rfl (fun b45 => ?_)
        refine undel (d := 45) rfl ?_
        refine eWeak (weak_settle (k := 45) rfl (by repeat constructor) (by first | (simp; done) | rfl)) (fun b hb => by simp [owns, HA.own] at hb ⊢; first | (rcases hb with h | h | h | h <;> simp [h]; done) | (rcases hb with h | h | h <;> simp [h]; done) | (rcases hb with h | h <;> simp [h]; done) | (simp [hb]; done)) ?_
        refine eTwoS (i := 0) (j := 9) #[true, true, true, true, true, true, true, true, true, false, false, true, true, true, true, true, false, false, false, false] #[false, true, true, true, true, true, true, true, true, true, false, true, true, true, true, true, false, false, false, false] rfl rfl (HT.two (by kernel_rfl)) (by decide) (by decide) ?_ ?_
        ·skip
         refine stQ (wantN rfl) (fun t ht => by cases ht <;> decide) ?_
         refine qLit (l := [_]) rfl rfl (by decide) us_39 ty_9 ze_9 rfl (by decide) (by decide) rfl rfl rfl (fun b30 => ?_)
         refine undel (d := 30) rfl ?_
         refine eWeak (weak_settle (k := 30) rfl (by repeat constructor) (by first | (simp; done) | rfl)) (fun b hb => by simp [owns, HA.own] at hb ⊢; first | (rcases hb with h | h | h | h <;> simp [h]; done) | (rcases hb with h | h | h <;> simp [h]; done) | (rcases hb with h | h <;> simp [h]; done) | (simp [hb]; done)) ?_
         refine e1 HT 9 rfl ?_
         refine cv rfl rfl rfl (lents_refl _) (conf_how (u := x.u)) ?_
         refine eTwoS (i := 10) (j := 16) #[true, true, true, true, true, true, true, true, true, true, true, true, true, true, true, true, false, false, false, false] #[true, true, true, true, true, true, true, true, true, true, false, true, true, true, true, true, true, false, false, false] rfl rfl (HT.two (by kernel_rfl)) (by decide) (by decide) ?_ ?_
         ·skip
          refine stQ (wantN rfl) (fun t ht => by cases ht <;> decide) ?_
          refine qLit (l := [_]) rfl rfl (by decide) us_39 ty_9 ze_9 rfl (by decide) (by decide) rfl rfl rfl (fun b40 => ?_)
          refine undel (d := 40) rfl ?_
          refine eWeak (weak_settle (k := 40) rfl (by repeat constructor) (by first | (simp; done) | rfl)) (fun b hb => by simp [owns, HA.own] at hb ⊢; first | (rcases hb with h | h | h | h <;> simp [h]; done) | (rcases hb with h | h | h <;> simp [h]; done) | (rcases hb with h | h <;> simp [h]; done) | (simp [hb]; done)) ?_
          refine eOneS (i := 16) #[true, true, true, true, true, true, true, true, true, true, true, true, true, true, true, true, true, false, false, false] rfl (HT.one (by kernel_rfl)) (by decide) ?_
          ·skip
           refine stA (hx := [.know 1 (powO G.tp G.zp)]) (wantN rfl) (fun t ht => by cases ht <;> decide) (.cons (by repeat constructor) .nil) (by repeat constructor) ?_
           refine cai rfl rfl rfl (conf_nums_s (l := [x.ca, x.cb]) G (by simp) (fun z hz => by simp only [List.mem_cons, List.not_mem_nil, or_false] at hz; rcases hz with rfl | rfl <;> omega)) ?_
           refine undel (d := 46) rfl ?_
           try dsimp only [List.cons_append, List.nil_append]
           refine e1 HT 17 rfl ?_
           refine qLit (l := [_, _, _, _]) rfl rfl (by decide) us_60 ty_39 ze_39 rfl (by decide) (by decide) rfl rfl rfl (fun b47 => ?_)
           refine eWeak (weak_settle (k := 47) rfl (by repeat constructor) (by first | (simp; done) | rfl)) (fun b hb => by simp [owns, HA.own] at hb ⊢; first | (rcases hb with h | h | h | h <;> simp [h]; done) | (rcases hb with h | h | h <;> simp [h]; done) | (rcases hb with h | h <;> simp [h]; done) | (simp [hb]; done)) ?_
           refine eOneS (i := 18) #[true, true, true, true, true, true, true, true, true, true, true, true, true, true, true, true, true, true, true, false] rfl (HT.one (by kernel_rfl)) (by decide) ?_
           ·skip
            refine stA (hx := []) (wantN rfl) (fun t ht => by cases ht <;> decide) .nil (by repeat constructor) ?_
            first | refine coM rfl rfl rfl (concat_S (l := [[[119, 105, 114, 101]], [itoa x.a, itoa x.b], [howS x.u], [itoa x.ca, itoa x.cb]]) (by simp) (by simp)) (fun g48 k48 => ?_) | refine co rfl rfl rfl (concat_S (l := [[[119, 105, 114, 101]], [itoa x.a, itoa x.b], [howS x.u], [itoa x.ca, itoa x.cb]]) (by simp) (by simp)) (fun g48 k48 => ?_)
            refine undel (d := 48) rfl ?_
            try dsimp only [List.cons_append, List.nil_append]
            refine ef HT 19 rfl pMa ?_
            refine eE HT ?_
            clear HT
            refine ⟨(_, _), ?_, ⟨gLen rfl (by first | rfl | simp | (simp; omega)), rfl, rfl, rfl, rfl, trivial⟩, _, (by repeat constructor)⟩
            trivial
         ·skip
          refine stA (hx := [.know 1 (powO G.tp G.zp)]) (wantN rfl) (fun t ht => by cases ht <;> decide) (.cons (by repeat constructor) .nil) (by repeat constructor) ?_
          refine cai rfl rfl rfl (conf_nums_s (l := [x.ca, x.cb]) G (by simp) (fun z hz => by simp only [List.mem_cons, List.not_mem_nil, or_false] at hz; rcases hz with rfl | rfl <;> omega)) ?_
          refine undel (d := 46) rfl ?_
          try dsimp only [List.cons_append, List.nil_append]
          refine e1 HT 10 rfl ?_
          refine qLit (l := [_]) rfl rfl (by decide) us_39 ty_9 ze_9 rfl (by decide) (by decide) rfl rfl rfl (fun b40 => ?_)
          refine eWeak (weak_settle (k := 40) rfl (by repeat constructor) (by first | (simp; done) | rfl)) (fun b hb => by simp [owns, HA.own] at hb ⊢; first | (rcases hb with h | h | h | h <;> simp [h]; done) | (rcases hb with h | h | h <;> simp [h]; done) | (rcases hb with h | h <;> simp [h]; done) | (simp [hb]; done)) ?_
          refine e1 HT 17 rfl ?_
          refine qLit (l := [_, _, _, _]) rfl rfl (by decide) us_60 ty_39 ze_39 rfl (by decide) (by decide) rfl rfl rfl (fun b47 => ?_)
          refine eWeak (weak_settle (k := 47) rfl (by repeat constructor) (by first | (simp; done) | rfl)) (fun b hb => by simp [owns, HA.own] at hb ⊢; first | (rcases hb with h | h | h | h <;> simp [h]; done) | (rcases hb with h | h | h <;> simp [h]; done) | (rcases hb with h | h <;> simp [h]; done) | (simp [hb]; done)) ?_
          refine eOneS (i := 18) #[true, true, true, true, true, true, true, true, true, true, true, true, true, true, true, true, true, true, true, false] rfl (HT.one (by kernel_rfl)) (by decide) ?_
          ·skip
           refine stA (hx := []) (wantN rfl) (fun t ht => by cases ht <;> decide) .nil (by repeat constructor) ?_
           first | refine coM rfl rfl rfl (concat_S (l := [[[119, 105, 114, 101]], [itoa x.a, itoa x.b], [howS x.u], [itoa x.ca, itoa x.cb]]) (by simp) (by simp)) (fun g48 k48 => ?_) | refine co rfl rfl rfl (concat_S (l := [[[119, 105, 114, 101]], [itoa x.a, itoa x.b], [howS x.u], [itoa x.ca, itoa x.cb]]) (by simp) (by simp)) (fun g48 k48 => ?_)
           refine undel (d := 48) rfl ?_
           try dsimp only [List.cons_append, List.nil_append]
           refine ef HT 19 rfl pMa ?_
           refine eE HT ?_
           clear HT
           refine ⟨(_, _), ?_, ⟨gLen rfl (by first | rfl | simp | (simp; omega)), rfl, rfl, rfl, rfl, trivial⟩, _, (by repeat constructor)⟩
           trivial
        ·skip
         refine stQ (wantN rfl) (fun t ht => by cases ht <;> decide) ?_
         refine cv rfl rfl rfl (lents_refl _) (conf_how (u := x.u)) ?_
         refine undel (d := 39) rfl ?_
         refine eThreeS (i := 0) (j := 10) (k := 16) #[true, true, true, true, true, true, true, true, true, true, false, true, true, true, true, true, false, false, false, false] #[false, true, true, true, true, true, true, true, true, true, true, true, true, true, true, true, false, false, false, false] #[false, true, true, true, true, true, true, true, true, true, false, true, true, true, true, true, true, false, false, false] rfl rfl rfl (HT.three (by kernel_rfl)) (by decide) (by decide) (by decide) ?_ ?_ ?_
         ·skip
          refine stQ (wantN rfl) (fun t ht => by cases ht <;> decide) ?_
          refine qLit (l := [_]) rfl rfl (by decide) us_39 ty_9 ze_9 rfl (by decide) (by decide) rfl rfl rfl (fun b30 => ?_)
          refine undel (d := 30) rfl ?_
          refine eWeak (weak_settle (k := 30) rfl (by repeat constructor) (by first | (simp; done) | rfl)) (fun b hb => by simp [owns, HA.own] at hb ⊢; first | (rcases hb with h | h | h | h <;> simp [h]; done) | (rcases hb with h | h | h <;> simp [h]; done) | (rcases hb with h | h <;> simp [h]; done) | (simp [hb]; done)) ?_
          refine eTwoS (i := 10) (j := 16) #[true, true, true, true, true, true, true, true, true, true, true, true, true, true, true, true, false, false, false, false] #[true, true, true, true, true, true, true, true, true, true, false, true, true, true, true, true, true, false, false, false] rfl rfl (HT.two (by kernel_rfl)) (by decide) (by decide) ?_ ?_
          ·skip
           refine stQ (wantN rfl) (fun t ht => by cases ht <;> decide) ?_
           refine qLit (l := [_]) rfl rfl (by decide) us_39 ty_9 ze_9 rfl (by decide) (by decide) rfl rfl rfl (fun b40 => ?_)
           refine undel (d := 40) rfl ?_
           refine eWeak (weak_settle (k := 40) rfl (by repeat constructor) (by first | (simp; done) | rfl)) (fun b hb => by simp [owns, HA.own] at hb ⊢; first | (rcases hb with h | h | h | h <;> simp [h]; done) | (rcases hb with h | h | h <;> simp [h]; done) | (rcases hb with h | h <;> simp [h]; done) | (simp [hb]; done)) ?_
           refine eOneS (i := 16) #[true, true, true, true, true, true, true, true, true, true, true, true, true, true, true, true, true, false, false, false] rfl (HT.one (by kernel_rfl)) (by decide) ?_
           ·skip
            refine stA (hx := [.know 1 (powO G.tp G.zp)]) (wantN rfl) (fun t ht => by cases ht <;> decide) (.cons (by repeat constructor) .nil) (by repeat constructor) ?_
            refine cai rfl rfl rfl (conf_nums_s (l := [x.ca, x.cb]) G (by simp) (fun z hz => by simp only [List.mem_cons, List.not_mem_nil, or_false] at hz; rcases hz with rfl | rfl <;> omega)) ?_
            refine undel (d := 46) rfl ?_
            try dsimp only [List.cons_append, List.nil_append]
            refine e1 HT 17 rfl ?_
            refine qLit (l := [_, _, _, _]) rfl rfl (by decide) us_60 ty_39 ze_39 rfl (by decide) (by decide) rfl rfl rfl (fun b47 => ?_)
            refine eWeak (weak_settle (k := 47) rfl (by repeat constructor) (by first | (simp; done) | rfl)) (fun b hb => by simp [owns, HA.own] at hb ⊢; first | (rcases hb with h | h | h | h <;> simp [h]; done) | (rcases hb with h | h | h <;> simp [h]; done) | (rcases hb with h | h <;> simp [h]; done) | (simp [hb]; done)) ?_
            refine eOneS (i := 18) #[true, true, true, true, true, true, true, true, true, true, true, true, true, true, true, true, true, true, true, false] rfl (HT.one (by kernel_rfl)) (by decide) ?_
            ·skip
             refine stA (hx := []) (wantN rfl) (fun t ht => by cases ht <;> decide) .nil (by repeat constructor) ?_
             first | refine coM rfl rfl rfl (concat_S (l := [[[119, 105, 114, 101]], [itoa x.a, itoa x.b], [howS x.u], [itoa x.ca, itoa x.cb]]) (by simp) (by simp)) (fun g48 k48 => ?_) | refine co rfl rfl rfl (concat_S (l := [[[119, 105, 114, 101]], [itoa x.a, itoa x.b], [howS x.u], [itoa x.ca, itoa x.cb]]) (by simp) (by simp)) (fun g48 k48 => ?_)
             refine undel (d := 48) rfl ?_
             try dsimp only [List.cons_append, List.nil_append]
             refine ef HT 19 rfl pMa ?_
             refine eE HT ?_
             clear HT
             refine ⟨(_, _), ?_, ⟨gLen rfl (by first | rfl | simp | (simp; omega)), rfl, rfl, rfl, rfl, trivial⟩, _, (by repeat constructor)⟩
             trivial
          ·skip
           refine stA (hx := [.know 1 (powO G.tp G.zp)]) (wantN rfl) (fun t ht => by cases ht <;> decide) (.cons (by repeat constructor) .nil) (by repeat constructor) ?_
           refine cai rfl rfl rfl (conf_nums_s (l := [x.ca, x.cb]) G (by simp) (fun z hz => by simp only [List.mem_cons, List.not_mem_nil, or_false] at hz; rcases hz with rfl | rfl <;> omega)) ?_
           refine undel (d := 46) rfl ?_
           try dsimp only [List.cons_append, List.nil_append]
           refine e1 HT 10 rfl ?_
           refine qLit (l := [_]) rfl rfl (by decide) us_39 ty_9 ze_9 rfl (by decide) (by decide) rfl rfl rfl (fun b40 => ?_)
           refine eWeak (weak_settle (k := 40) rfl (by repeat constructor) (by first | (simp; done) | rfl)) (fun b hb => by simp [owns, HA.own] at hb ⊢; first | (rcases hb with h | h | h | h <;> simp [h]; done) | (rcases hb with h | h | h <;> simp [h]; done) | (rcases hb with h | h <;> simp [h]; done) | (simp [hb]; done)) ?_
           refine e1 HT 17 rfl ?_
           refine qLit (l := [_, _, _, _]) rfl rfl (by decide) us_60 ty_39 ze_39 rfl (by decide) (by decide) rfl rfl rfl (fun b47 => ?_)
           refine eWeak (weak_settle (k := 47) rfl (by repeat constructor) (by first | (simp; done) | rfl)) (fun b hb => by simp [owns, HA.own] at hb ⊢; first | (rcases hb with h | h | h | h <;> simp [h]; done) | (rcases hb with h | h | h <;> simp [h]; done) | (rcases hb with h | h <;> simp [h]; done) | (simp [hb]; done)) ?_
           refine eOneS (i := 18) #[true, true, true, true, true, true, true, true, true, true, true, true, true, true, true, true, true, true, true, false] rfl (HT.one (by kernel_rfl)) (by decide) ?_
           ·skip
            refine stA (hx := []) (wantN rfl) (fun t ht => by cases ht <;> decide) .nil (by repeat constructor) ?_
            first | refine coM rfl rfl rfl (concat_S (l := [[[119, 105, 114, 101]], [itoa x.a, itoa x.b], [howS x.u], [itoa x.ca, itoa x.cb]]) (by simp) (by simp)) (fun g48 k48 => ?_) | refine co rfl rfl rfl (concat_S (l := [[[119, 105, 114, 101]], [itoa x.a, itoa x.b], [howS x.u], [itoa x.ca, itoa x.cb]]) (by simp) (by simp)) (fun g48 k48 => ?_)
            refine undel (d := 48) rfl ?_
            try dsimp only [List.cons_append, List.nil_append]
            refine ef HT 19 rfl pMa ?_
            refine eE HT ?_
            clear HT
            refine ⟨(_, _), ?_, ⟨gLen rfl (by first | rfl | simp | (simp; omega)), rfl, rfl, rfl, rfl, trivial⟩, _, (by repeat constructor)⟩
            trivial
         ·skip
          refine stQ (wantN rfl) (fun t ht => by cases ht <;> decide) ?_
          refine qLit (l := [_]) rfl rfl (by decide) us_39 ty_9 ze_9 rfl (by decide) (by decide) rfl rfl rfl (fun b40 => ?_)
          refine undel (d := 40) rfl ?_
          refine eWeak (weak_settle (k := 40) rfl (by repeat constructor) (by first | (simp; done) | rfl)) (fun b hb => by simp [owns, HA.own] at hb ⊢; first | (rcases hb with h | h | h | h <;> simp [h]; done) | (rcases hb with h | h | h <;> simp [h]; done) | (rcases hb with h | h <;> simp [h]; done) | (simp [hb]; done)) ?_
          refine eTwoS (i := 0) (j := 16) #[true, true, true, true, true, true, true, true, true, true, true, true, true, true, true, true, false, false, false, false] #[false, true, true, true, true, true, true, true, true, true, true, true, true, true, true, true, true, false, false, false] rfl rfl (HT.two (by kernel_rfl)) (by decide) (by decide) ?_ ?_
          ·skip
           refine stQ (wantN rfl) (fun t ht => by cases ht <;> decide) ?_
           refine qLit (l := [_]) rfl rfl (by decide) us_39 ty_9 ze_9 rfl (by decide) (by decide) rfl rfl rfl (fun b30 => ?_)
           refine undel (d := 30) rfl ?_
           refine eWeak (weak_settle (k := 30) rfl (by repeat constructor) (by first | (simp; done) | rfl)) (fun b hb => by simp [owns, HA.own] at hb ⊢; first | (rcases hb with h | h | h | h <;> simp [h]; done) | (rcases hb with h | h | h <;> simp [h]; done) | (rcases hb with h | h <;> simp [h]; done) | (simp [hb]; done)) ?_
           refine eOneS (i := 16) #[true, true, true, true, true, true, true, true, true, true, true, true, true, true, true, true, true, false, false, false] rfl (HT.one (by kernel_rfl)) (by decide) ?_
           ·skip
            refine stA (hx := [.know 1 (powO G.tp G.zp)]) (wantN rfl) (fun t ht => by cases ht <;> decide) (.cons (by repeat constructor) .nil) (by repeat constructor) ?_
            refine cai rfl rfl rfl (conf_nums_s (l := [x.ca, x.cb]) G (by simp) (fun z hz => by simp only [List.mem_cons, List.not_mem_nil, or_false] at hz; rcases hz with rfl | rfl <;> omega)) ?_
            refine undel (d := 46) rfl ?_
            try dsimp only [List.cons_append, List.nil_append]
            refine e1 HT 17 rfl ?_
            refine qLit (l := [_, _, _, _]) rfl rfl (by decide) us_60 ty_39 ze_39 rfl (by decide) (by decide) rfl rfl rfl (fun b47 => ?_)
            refine eWeak (weak_settle (k := 47) rfl (by repeat constructor) (by first | (simp; done) | rfl)) (fun b hb => by simp [owns, HA.own] at hb ⊢; first | (rcases hb with h | h | h | h <;> simp [h]; done) | (rcases hb with h | h | h <;> simp [h]; done) | (rcases hb with h | h <;> simp [h]; done) | (simp [hb]; done)) ?_
            refine eOneS (i := 18) #[true, true, true, true, true, true, true, true, true, true, true, true, true, true, true, true, true, true, true, false] rfl (HT.one (by kernel_rfl)) (by decide) ?_
            ·skip
             refine stA (hx := []) (wantN rfl) (fun t ht => by cases ht <;> decide) .nil (by repeat constructor) ?_
             first | refine coM rfl rfl rfl (concat_S (l := [[[119, 105, 114, 101]], [itoa x.a, itoa x.b], [howS x.u], [itoa x.ca, itoa x.cb]]) (by simp) (by simp)) (fun g48 k48 => ?_) | refine co rfl rfl rfl (concat_S (l := [[[119, 105, 114, 101]], [itoa x.a, itoa x.b], [howS x.u], [itoa x.ca, itoa x.cb]]) (by simp) (by simp)) (fun g48 k48 => ?_)
             refine undel (d := 48) rfl ?_
             try dsimp only [List.cons_append, List.nil_append]
             refine ef HT 19 rfl pMa ?_
             refine eE HT ?_
             clear HT
             refine ⟨(_, _), ?_, ⟨gLen rfl (by first | rfl | simp | (simp; omega)), rfl, rfl, rfl, rfl, trivial⟩, _, (by repeat constructor)⟩
             trivial
          ·skip
           refine stA (hx := [.know 1 (powO G.tp G.zp)]) (wantN rfl) (fun t ht => by cases ht <;> decide) (.cons (by repeat constructor) .nil) (by repeat constructor) ?_
           refine cai rfl rfl rfl (conf_nums_s (l := [x.ca, x.cb]) G (by simp) (fun z hz => by simp only [List.mem_cons, List.not_mem_nil, or_false] at hz; rcases hz with rfl | rfl <;> omega)) ?_
           refine undel (d := 46) rfl ?_
           try dsimp only [List.cons_append, List.nil_append]
           refine e1 HT 0 rfl ?_
           refine qLit (l := [_]) rfl rfl (by decide) us_39 ty_9 ze_9 rfl (by decide) (by decide) rfl rfl rfl (fun b30 => ?_)
           refine eWeak (weak_settle (k := 30) rfl (by repeat constructor) (by first | (simp; done) | rfl)) (fun b hb => by simp [owns, HA.own] at hb ⊢; first | (rcases hb with h | h | h | h <;> simp [h]; done) | (rcases hb with h | h | h <;> simp [h]; done) | (rcases hb with h | h <;> simp [h]; done) | (simp [hb]; done)) ?_
           refine e1 HT 17 rfl ?_
           refine qLit (l := [_, _, _, _]) rfl rfl (by decide) us_60 ty_39 ze_39 rfl (by decide) (by decide) rfl rfl rfl (fun b47 => ?_)
           refine eWeak (weak_settle (k := 47) rfl (by repeat constructor) (by first | (simp; done) | rfl)) (fun b hb => by simp [owns, HA.own] at hb ⊢; first | (rcases hb with h | h | h | h <;> simp [h]; done) | (rcases hb with h | h | h <;> simp [h]; done) | (rcases hb with h | h <;> simp [h]; done) | (simp [hb]; done)) ?_
           refine eOneS (i := 18) #[true, true, true, true, true, true, true, true, true, true, true, true, true, true, true, true, true, true, true, false] rfl (HT.one (by kernel_rfl)) (by decide) ?_
           ·skip
            refine stA (hx := []) (wantN rfl) (fun t ht => by cases ht <;> decide) .nil (by repeat constructor) ?_
            first | refine coM rfl rfl rfl (concat_S (l := [[[119, 105, 114, 101]], [itoa x.a, itoa x.b], [howS x.u], [itoa x.ca, itoa x.cb]]) (by simp) (by simp)) (fun g48 k48 => ?_) | refine co rfl rfl rfl (concat_S (l := [[[119, 105, 114, 101]], [itoa x.a, itoa x.b], [howS x.u], [itoa x.ca, itoa x.cb]]) (by simp) (by simp)) (fun g48 k48 => ?_)
            refine undel (d := 48) rfl ?_
            try dsimp only [List.cons_append, List.nil_append]
            refine ef HT 19 rfl pMa ?_
            refine eE HT ?_
            clear HT
            refine ⟨(_, _), ?_, ⟨gLen rfl (by first | rfl | simp | (simp; omega)), rfl, rfl, rfl, rfl, trivial⟩, _, (by repeat constructor)⟩
            trivial
         ·skip
          refine stA (hx := [.know 1 (powO G.tp G.zp)]) (wantN rfl) (fun t ht => by cases ht <;> decide) (.cons (by repeat constructor) .nil) (by repeat constructor) ?_
          refine cai rfl rfl rfl (conf_nums_s (l := [x.ca, x.cb]) G (by simp) (fun z hz => by simp only [List.mem_cons, List.not_mem_nil, or_false] at hz; rcases hz with rfl | rfl <;> omega)) ?_
          refine undel (d := 46) rfl ?_
          try dsimp only [List.cons_append, List.nil_append]
          refine eTwoS (i := 0) (j := 10) #[true, true, true, true, true, true, true, true, true, true, false, true, true, true, true, true, true, false, false, false] #[false, true, true, true, true, true, true, true, true, true, true, true, true, true, true, true, true, false, false, false] rfl rfl (HT.two (by kernel_rfl)) (by decide) (by decide) ?_ ?_
          ·skip
           refine stQ (wantN rfl) (fun t ht => by cases ht <;> decide) ?_
           refine qLit (l := [_]) rfl rfl (by decide) us_39 ty_9 ze_9 rfl (by decide) (by decide) rfl rfl rfl (fun b30 => ?_)
           refine undel (d := 30) rfl ?_
           refine eWeak (weak_settle (k := 30) rfl (by repeat constructor) (by first | (simp; done) | rfl)) (fun b hb => by simp [owns, HA.own] at hb ⊢; first | (rcases hb with h | h | h | h <;> simp [h]; done) | (rcases hb with h | h | h <;> simp [h]; done) | (rcases hb with h | h <;> simp [h]; done) | (simp [hb]; done)) ?_
           refine e1 HT 10 rfl ?_
           refine qLit (l := [_]) rfl rfl (by decide) us_39 ty_9 ze_9 rfl (by decide) (by decide) rfl rfl rfl (fun b40 => ?_)
           refine eWeak (weak_settle (k := 40) rfl (by repeat constructor) (by first | (simp; done) | rfl)) (fun b hb => by simp [owns, HA.own] at hb ⊢; first | (rcases hb with h | h | h | h <;> simp [h]; done) | (rcases hb with h | h | h <;> simp [h]; done) | (rcases hb with h | h <;> simp [h]; done) | (simp [hb]; done)) ?_
           refine e1 HT 17 rfl ?_
           refine qLit (l := [_, _, _, _]) rfl rfl (by decide) us_60 ty_39 ze_39 rfl (by decide) (by decide) rfl rfl rfl (fun b47 => ?_)
           refine eWeak (weak_settle (k := 47) rfl (by repeat constructor) (by first | (simp; done) | rfl)) (fun b hb => by simp [owns, HA.own] at hb ⊢; first | (rcases hb with h | h | h | h <;> simp [h]; done) | (rcases hb with h | h | h <;> simp [h]; done) | (rcases hb with h | h <;> simp [h]; done) | (simp [hb]; done)) ?_
           refine eOneS (i := 18) #[true, true, true, true, true, true, true, true, true, true, true, true, true, true, true, true, true, true, true, false] rfl (HT.one (by kernel_rfl)) (by decide) ?_
           ·skip
            refine stA (hx := []) (wantN rfl) (fun t ht => by cases ht <;> decide) .nil (by repeat constructor) ?_
            first | refine coM rfl rfl rfl (concat_S (l := [[[119, 105, 114, 101]], [itoa x.a, itoa x.b], [howS x.u], [itoa x.ca, itoa x.cb]]) (by simp) (by simp)) (fun g48 k48 => ?_) | refine co rfl rfl rfl (concat_S (l := [[[119, 105, 114, 101]], [itoa x.a, itoa x.b], [howS x.u], [itoa x.ca, itoa x.cb]]) (by simp) (by simp)) (fun g48 k48 => ?_)
            refine undel (d := 48) rfl ?_
            try dsimp only [List.cons_append, List.nil_append]
            refine ef HT 19 rfl pMa ?_
            refine eE HT ?_
            clear HT
            refine ⟨(_, _), ?_, ⟨gLen rfl (by first | rfl | simp | (simp; omega)), rfl, rfl, rfl, rfl, trivial⟩, _, (by repeat constructor)⟩
            trivial
          ·skip
           refine stQ (wantN rfl) (fun t ht => by cases ht <;> decide) ?_
           refine qLit (l := [_]) rfl rfl (by decide) us_39 ty_9 ze_9 rfl (by decide) (by decide) rfl rfl rfl (fun b40 => ?_)
           refine undel (d := 40) rfl ?_
           refine eWeak (weak_settle (k := 40) rfl (by repeat constructor) (by first | (simp; done) | rfl)) (fun b hb => by simp [owns, HA.own] at hb ⊢; first | (rcases hb with h | h | h | h <;> simp [h]; done) | (rcases hb with h | h | h <;> simp [h]; done) | (rcases hb with h | h <;> simp [h]; done) | (simp [hb]; done)) ?_
           refine e1 HT 0 rfl ?_
           refine qLit (l := [_]) rfl rfl (by decide) us_39 ty_9 ze_9 rfl (by decide) (by decide) rfl rfl rfl (fun b30 => ?_)
           refine eWeak (weak_settle (k := 30) rfl (by repeat constructor) (by first | (simp; done) | rfl)) (fun b hb => by simp [owns, HA.own] at hb ⊢; first | (rcases hb with h | h | h | h <;> simp [h]; done) | (rcases hb with h | h | h <;> simp [h]; done) | (rcases hb with h | h <;> simp [h]; done) | (simp [hb]; done)) ?_
           refine e1 HT 17 rfl ?_
           refine qLit (l := [_, _, _, _]) rfl rfl (by decide) us_60 ty_39 ze_39 rfl (by decide) (by decide) rfl rfl rfl (fun b47 => ?_)
           refine eWeak (weak_settle (k := 47) rfl (by repeat constructor) (by first | (simp; done) | rfl)) (fun b hb => by simp [owns, HA.own] at hb ⊢; first | (rcases hb with h | h | h | h <;> simp [h]; done) | (rcases hb with h | h | h <;> simp [h]; done) | (rcases hb with h | h <;> simp [h]; done) | (simp [hb]; done)) ?_
           refine eOneS (i := 18) #[true, true, true, true, true, true, true, true, true, true, true, true, true, true, true, true, true, true, true, false] rfl (HT.one (by kernel_rfl)) (by decide) ?_
           ·skip
            refine stA (hx := []) (wantN rfl) (fun t ht => by cases ht <;> decide) .nil (by repeat constructor) ?_
            first | refine coM rfl rfl rfl (concat_S (l := [[[119, 105, 114, 101]], [itoa x.a, itoa x.b], [howS x.u], [itoa x.ca, itoa x.cb]]) (by simp) (by simp)) (fun g48 k48 => ?_) | refine co rfl rfl rfl (concat_S (l := [[[119, 105, 114, 101]], [itoa x.a, itoa x.b], [howS x.u], [itoa x.ca, itoa x.cb]]) (by simp) (by simp)) (fun g48 k48 => ?_)
            refine undel (d := 48) rfl ?_
            try dsimp only [List.cons_append, List.nil_append]
            refine ef HT 19 rfl pMa ?_
            refine eE HT ?_
            clear HT
            refine ⟨(_, _), ?_, ⟨gLen rfl (by first | rfl | simp | (simp; omega)), rfl, rfl, rfl, rfl, trivial⟩, _, (by repeat constructor)⟩
            trivial
      ·skip
       refine stQ (wantN rfl) (fun t ht => by cases ht <;> decide) ?_
       refine qLit (l := [_, _]) rfl rfl (by decide) us_62 ty_3 ze_3 rfl (by decide) (by decide) rfl rfl rfl (fun b45 => ?_)
       refine undel (d := 45) rfl ?_
       refine eWeak (weak_settle (k := 45) rfl (by repeat constructor) (by first | (simp; done) | rfl)) (fun b hb => by simp [owns, HA.own] at hb ⊢; first | (rcases hb with h | h | h | h <;> simp [h]; done) | (rcases hb with h | h | h <;> simp [h]; done) | (rcases hb with h | h <;> simp [h]; done) | (simp [hb]; done)) ?_
       refine eTwoS (i := 0) (j := 6) #[true, true, true, true, true, true, false, true, true, false, false, true, true, true, true, true, false, false, false, false] #[false, true, true, true, true, true, true, true, true, false, false, true, true, true, true, true, false, false, false, false] rfl rfl (HT.two (by kernel_rfl)) (by decide) (by decide) ?_ ?_
       ·skip
        refine stQ (wantN rfl) (fun t ht => by cases ht <;> decide) ?_
        refine qLit (l := [_]) rfl rfl (by decide) us_39 ty_9 ze_9 rfl (by decide) (by decide) rfl rfl rfl (fun b30 => ?_)
        refine undel (d := 30) rfl ?_
        refine eWeak (weak_settle (k := 30) rfl (by repeat constructor) (by first | (simp; done) | rfl)) (fun b hb => by simp [owns, HA.own] at hb ⊢; first | (rcases hb with h | h | h | h <;> simp [h]; done) | (rcases hb with h | h | h <;> simp [h]; done) | (rcases hb with h | h <;> simp [h]; done) | (simp [hb]; done)) ?_
        refine eOneS (i := 6) #[true, true, true, true, true, true, true, true, true, false, false, true, true, true, true, true, false, false, false, false] rfl (HT.one (by kernel_rfl)) (by decide) ?_
        ·skip
         refine stA (hx := [.know 1 (powO G.tp G.zp)]) (wantN rfl) (fun t ht => by cases ht <;> decide) (.cons (by repeat constructor) .nil) (by repeat constructor) ?_
         refine cai rfl rfl rfl (conf_nums_s (l := [x.a, x.b]) G (by simp) (fun z hz => by simp only [List.mem_cons, List.not_mem_nil, or_false] at hz; rcases hz with rfl | rfl <;> omega)) ?_
         refine undel (d := 36) rfl ?_
         try dsimp only [List.cons_append, List.nil_append]
         refine e1 HT 9 rfl ?_
         refine cv rfl rfl rfl (lents_refl _) (conf_how (u := x.u)) ?_
         refine eTwoS (i := 10) (j := 16) #[true, true, true, true, true, true, true, true, true, true, true, true, true, true, true, true, false, false, false, false] #[true, true, true, true, true, true, true, true, true, true, false, true, true, true, true, true, true, false, false, false] rfl rfl (HT.two (by kernel_rfl)) (by decide) (by decide) ?_ ?_
         ·skip
          refine stQ (wantN rfl) (fun t ht => by cases ht <;> decide) ?_
          refine qLit (l := [_]) rfl rfl (by decide) us_39 ty_9 ze_9 rfl (by decide) (by decide) rfl rfl rfl (fun b40 => ?_)
          refine undel (d := 40) rfl ?_
          refine eWeak (weak_settle (k := 40) rfl (by repeat constructor) (by first | (simp; done) | rfl)) (fun b hb => by simp [owns, HA.own] at hb ⊢; first | (rcases hb with h | h | h | h <;> simp [h]; done) | (rcases hb with h | h | h <;> simp [h]; done) | (rcases hb with h | h <;> simp [h]; done) | (simp [hb]; done)) ?_
          refine eOneS (i := 16) #[true, true, true, true, true, true, true, true, true, true, true, true, true, true, true, true, true, false, false, false] rfl (HT.one (by kernel_rfl)) (by decide) ?_
          ·skip
           refine stA (hx := [.know 1 (powO G.tp G.zp)]) (wantN rfl) (fun t ht => by cases ht <;> decide) (.cons (by repeat constructor) .nil) (by repeat constructor) ?_
           refine cai rfl rfl rfl (conf_nums_s (l := [x.ca, x.cb]) G (by simp) (fun z hz => by simp only [List.mem_cons, List.not_mem_nil, or_false] at hz; rcases hz with rfl | rfl <;> omega)) ?_
           refine undel (d := 46) rfl ?_
           try dsimp only [List.cons_append, List.nil_append]
           refine e1 HT 17 rfl ?_
           refine qLit (l := [_, _, _, _]) rfl rfl (by decide) us_60 ty_39 ze_39 rfl (by decide) (by decide) rfl rfl rfl (fun b47 => ?_)
           refine eWeak (weak_settle (k := 47) rfl (by repeat constructor) (by first | (simp; done) | rfl)) (fun b hb => by simp [owns, HA.own] at hb ⊢; first | (rcases hb with h | h | h | h <;> simp [h]; done) | (rcases hb with h | h | h <;> simp [h]; done) | (rcases hb with h | h <;> simp [h]; done) | (simp [hb]; done)) ?_
           refine eOneS (i := 18) #[true, true, true, true, true, true, true, true, true, true, true, true, true, true, true, true, true, true, true, false] rfl (HT.one (by kernel_rfl)) (by decide) ?_
           ·skip
            refine stA (hx := []) (wantN rfl) (fun t ht => by cases ht <;> decide) .nil (by repeat constructor) ?_
            first | refine coM rfl rfl rfl (concat_S (l := [[[119, 105, 114, 101]], [itoa x.a, itoa x.b], [howS x.u], [itoa x.ca, itoa x.cb]]) (by simp) (by simp)) (fun g48 k48 => ?_) | refine co rfl rfl rfl (concat_S (l := [[[119, 105, 114, 101]], [itoa x.a, itoa x.b], [howS x.u], [itoa x.ca, itoa x.cb]]) (by simp) (by simp)) (fun g48 k48 => ?_)
            refine undel (d := 48) rfl ?_
            try dsimp only [List.cons_append, List.nil_append]
            refine ef HT 19 rfl pMa ?_
            refine eE HT ?_
            clear HT
            refine ⟨(_, _), ?_, ⟨gLen rfl (by first | rfl | simp | (simp; omega)), rfl, rfl, rfl, rfl, trivial⟩, _, (by repeat constructor)⟩
            trivial
         ·skip
          refine stA (hx := [.know 1 (powO G.tp G.zp)]) (wantN rfl) (fun t ht => by cases ht <;> decide) (.cons (by repeat constructor) .nil) (by repeat constructor) ?_
          refine cai rfl rfl rfl (conf_nums_s (l := [x.ca, x.cb]) G (by simp) (fun z hz => by simp only [List.mem_cons, List.not_mem_nil, or_false] at hz; rcases hz with rfl | rfl <;> omega)) ?_
          refine undel (d := 46) rfl ?_
          try dsimp only [List.cons_append, List.nil_append]
          refine e1 HT 10 rfl ?_
          refine qLit (l := [_]) rfl rfl (by decide) us_39 ty_9 ze_9 rfl (by decide) (by decide) rfl rfl rfl (fun b40 => ?_)
          refine eWeak (weak_settle (k := 40) rfl (by repeat constructor) (by first | (simp; done) | rfl)) (fun b hb => by simp [owns, HA.own] at hb ⊢; first | (rcases hb with h | h | h | h <;> simp [h]; done) | (rcases hb with h | h | h <;> simp [h]; done) | (rcases hb with h | h <;> simp [h]; done) | (simp [hb]; done)) ?_
          refine e1 HT 17 rfl ?_
          refine qLit (l := [_, _, _, _]) rfl rfl (by decide) us_60 ty_39 ze_39 rfl (by decide) (by decide) rfl rfl rfl (fun b47 => ?_)
          refine eWeak (weak_settle (k := 47) rfl (by repeat constructor) (by first | (simp; done) | rfl)) (fun b hb => by simp [owns, HA.own] at hb ⊢; first | (rcases hb with h | h | h | h <;> simp [h]; done) | (rcases hb with h | h | h <;> simp [h]; done) | (rcases hb with h | h <;> simp [h]; done) | (simp [hb]; done)) ?_
          refine eOneS (i := 18) #[true, true, true, true, true, true, true, true, true, true, true, true, true, true, true, true, true, true, true, false] rfl (HT.one (by kernel_rfl)) (by decide) ?_
          ·skip
           refine stA (hx := []) (wantN rfl) (fun t ht => by cases ht <;> decide) .nil (by repeat constructor) ?_
           first | refine coM rfl rfl rfl (concat_S (l := [[[119, 105, 114, 101]], [itoa x.a, itoa x.b], [howS x.u], [itoa x.ca, itoa x.cb]]) (by simp) (by simp)) (fun g48 k48 => ?_) | refine co rfl rfl rfl (concat_S (l := [[[119, 105, 114, 101]], [itoa x.a, itoa x.b], [howS x.u], [itoa x.ca, itoa x.cb]]) (by simp) (by simp)) (fun g48 k48 => ?_)
           refine undel (d := 48) rfl ?_
           try dsimp only [List.cons_append, List.nil_append]
           refine ef HT 19 rfl pMa ?_
           refine eE HT ?_
           clear HT
           refine ⟨(_, _), ?_, ⟨gLen rfl (by first | rfl | simp | (simp; omega)), rfl, rfl, rfl, rfl, trivial⟩, _, (by repeat constructor)⟩
           trivial
       ·skip
        refine stA (hx := [.know 1 (powO G.tp G.zp)]) (wantN rfl) (fun t ht => by cases ht <;> decide) (.cons (by repeat constructor) .nil) (by repeat constructor) ?_
        refine cai rfl rfl rfl (conf_nums_s (l := [x.a, x.b]) G (by simp) (fun z hz => by simp only [List.mem_cons, List.not_mem_nil, or_false] at hz; rcases hz with rfl | rfl <;> omega)) ?_
        refine undel (d := 36) rfl ?_
        try dsimp only [List.cons_append, List.nil_append]
        refine eTwoS (i := 0) (j := 9) #[true, true, true, true, true, true, true, true, true, false, false, true, true, true, true, true, false, false, false, false] #[false, true, true, true, true, true, true, true, true, true, false, true, true, true, true, true, false, false, false, false] rfl rfl (HT.two (by kernel_rfl)) (by decide) (by decide) ?_ ?_
        ·skip
         refine stQ (wantN rfl) (fun t ht => by cases ht <;> decide) ?_
         refine qLit (l := [_]) rfl rfl (by decide) us_39 ty_9 ze_9 rfl (by decide) (by decide) rfl rfl rfl (fun b30 => ?_)
         refine undel (d := 30) rfl ?_
         refine eWeak (weak_settle (k := 30) rfl (by repeat constructor) (by first | (simp; done) | rfl)) (fun b hb => by simp [owns, HA.own] at hb ⊢; first | (rcases hb with h | h | h | h <;> simp [h]; done) | (rcases hb with h | h | h <;> simp [h]; done) | (rcases hb with h | h <;> simp [h]; done) | (simp [hb]; done)) ?_
         refine e1 HT 9 rfl ?_
         refine cv rfl rfl rfl (lents_refl _) (conf_how (u := x.u)) ?_
         refine eTwoS (i := 10) (j := 16) #[true, true, true, true, true, true, true, true, true, true, true, true, true, true, true, true, false, false, false, false] #[true, true, true, true, true, true, true, true, true, true, false, true, true, true, true, true, true, false, false, false] rfl rfl (HT.two (by kernel_rfl)) (by decide) (by decide) ?_ ?_
         ·skip
          refine stQ (wantN rfl) (fun t ht => by cases ht <;> decide) ?_
          refine qLit (l := [_]) rfl rfl (by decide) us_39 ty_9 ze_9 rfl (by decide) (by decide) rfl rfl rfl (fun b40 => ?_)
          refine undel (d := 40) rfl ?_
          refine eWeak (weak_settle (k := 40) rfl (by repeat constructor) (by first | (simp; done) | rfl)) (fun b hb => by simp [owns, HA.own] at hb ⊢; first | (rcases hb with h | h | h | h <;> simp [h]; done) | (rcases hb with h | h | h <;> simp [h]; done) | (rcases hb with h | h <;> simp [h]; done) | (simp [hb]; done)) ?_
          refine eOneS (i := 16) #[true, true, true, true, true, true, true, true, true, true, true, true, true, true, true, true, true, false, false, false] rfl (HT.one (by kernel_rfl)) (by decide) ?_
          ·skip
           refine stA (hx := [.know 1 (powO G.tp G.zp)]) (wantN rfl) (fun t ht => by cases ht <;> decide) (.cons (by repeat constructor) .nil) (by repeat constructor) ?_
           refine cai rfl rfl rfl (conf_nums_s (l := [x.ca, x.cb]) G (by simp) (fun z hz => by simp only [List.mem_cons, List.not_mem_nil, or_false] at hz; rcases hz with rfl | rfl <;> omega)) ?_
           refine undel (d := 46) rfl ?_
           try dsimp only [List.cons_append, List.nil_append]
           refine e1 HT 17 rfl ?_
           refine qLit (l := [_, _, _, _]) rfl rfl (by decide) us_60 ty_39 ze_39 rfl (by decide) (by decide) rfl rfl rfl (fun b47 => ?_)
           refine eWeak (weak_settle (k := 47) rfl (by repeat constructor) (by first | (simp; done) | rfl)) (fun b hb => by simp [owns, HA.own] at hb ⊢; first | (rcases hb with h | h | h | h <;> simp [h]; done) | (rcases hb with h | h | h <;> simp [h]; done) | (rcases hb with h | h <;> simp [h]; done) | (simp [hb]; done)) ?_
           refine eOneS (i := 18) #[true, true, true, true, true, true, true, true, true, true, true, true, true, true, true, true, true, true, true, false] rfl (HT.one (by kernel_rfl)) (by decide) ?_
           ·skip
            refine stA (hx := []) (wantN rfl) (fun t ht => by cases ht <;> decide) .nil (by repeat constructor) ?_
            first | refine coM rfl rfl rfl (concat_S (l := [[[119, 105, 114, 101]], [itoa x.a, itoa x.b], [howS x.u], [itoa x.ca, itoa x.cb]]) (by simp) (by simp)) (fun g48 k48 => ?_) | refine co rfl rfl rfl (concat_S (l := [[[119, 105, 114, 101]], [itoa x.a, itoa x.b], [howS x.u], [itoa x.ca, itoa x.cb]]) (by simp) (by simp)) (fun g48 k48 => ?_)
            refine undel (d := 48) rfl ?_
            try dsimp only [List.cons_append, List.nil_append]
            refine ef HT 19 rfl pMa ?_
            refine eE HT ?_
            clear HT
            refine ⟨(_, _), ?_, ⟨gLen rfl (by first | rfl | simp | (simp; omega)), rfl, rfl, rfl, rfl, trivial⟩, _, (by repeat constructor)⟩
            trivial
         ·skip
          refine stA (hx := [.know 1 (powO G.tp G.zp)]) (wantN rfl) (fun t ht => by cases ht <;> decide) (.cons (by repeat constructor) .nil) (by repeat constructor) ?_
          refine cai rfl rfl rfl (conf_nums_s (l := [x.ca, x.cb]) G (by simp) (fun z hz => by simp only [List.mem_cons, List.not_mem_nil, or_false] at hz; rcases hz with rfl | rfl <;> omega)) ?_
          refine undel (d := 46) rfl ?_
          try dsimp only [List.cons_append, List.nil_append]
          refine e1 HT 10 rfl ?_
          refine qLit (l := [_]) rfl rfl (by decide) us_39 ty_9 ze_9 rfl (by decide) (by decide) rfl rfl rfl (fun b40 => ?_)
          refine eWeak (weak_settle (k := 40) rfl (by repeat constructor) (by first | (simp; done) | rfl)) (fun b hb => by simp [owns, HA.own] at hb ⊢; first | (rcases hb with h | h | h | h <;> simp [h]; done) | (rcases hb with h | h | h <;> simp [h]; done) | (rcases hb with h | h <;> simp [h]; done) | (simp [hb]; done)) ?_
          refine e1 HT 17 rfl ?_
          refine qLit (l := [_, _, _, _]) rfl rfl (by decide) us_60 ty_39 ze_39 rfl (by decide) (by decide) rfl rfl rfl (fun b47 => ?_)
          refine eWeak (weak_settle (k := 47) rfl (by repeat constructor) (by first | (simp; done) | rfl)) (fun b hb => by simp [owns, HA.own] at hb ⊢; first | (rcases hb with h | h | h | h <;> simp [h]; done) | (rcases hb with h | h | h <;> simp [h]; done) | (rcases hb with h | h <;> simp [h]; done) | (simp [hb]; done)) ?_
          refine eOneS (i := 18) #[true, true, true, true, true, true, true, true, true, true, true, true, true, true, true, true, true, true, true, false] rfl (HT.one (by kernel_rfl)) (by decide) ?_
          ·skip
           refine stA (hx := []) (wantN rfl) (fun t ht => by cases ht <;> decide) .nil (by repeat constructor) ?_
           first | refine coM rfl rfl rfl (concat_S (l := [[[119, 105, 114, 101]], [itoa x.a, itoa x.b], [howS x.u], [itoa x.ca, itoa x.cb]]) (by simp) (by simp)) (fun g48 k48 => ?_) | refine co rfl rfl rfl (concat_S (l := [[[119, 105, 114, 101]], [itoa x.a, itoa x.b], [howS x.u], [itoa x.ca, itoa x.cb]]) (by simp) (by simp)) (fun g48 k48 => ?_)
           refine undel (d := 48) rfl ?_
           try dsimp only [List.cons_append, List.nil_append]
           refine ef HT 19 rfl pMa ?_
           refine eE HT ?_
           clear HT
           refine ⟨(_, _), ?_, ⟨gLen rfl (by first | rfl | simp | (simp; omega)), rfl, rfl, rfl, rfl, trivial⟩, _, (by repeat constructor)⟩
           trivial
        ·skip
         refine stQ (wantN rfl) (fun t ht => by cases ht <;> decide) ?_
         refine cv rfl rfl rfl (lents_refl _) (conf_how (u := x.u)) ?_
         refine undel (d := 39) rfl ?_
         refine eThreeS (i := 0) (j := 10) (k := 16) #[true, true, true, true, true, true, true, true, true, true, false, true, true, true, true, true, false, false, false, false] #[false, true, true, true, true, true, true, true, true, true, true, true, true, true, true, true, false, false, false, false] #[false, true, true, true, true, true, true, true, true, true, false, true, true, true, true, true, true, false, false, false] rfl rfl rfl (HT.three (by kernel_rfl)) (by decide) (by decide) (by decide) ?_ ?_ ?_
         ·skip
          refine stQ (wantN rfl) (fun t ht => by cases ht <;> decide) ?_
          refine qLit (l := [_]) rfl rfl (by decide) us_39 ty_9 ze_9 rfl (by decide) (by decide) rfl rfl rfl (fun b30 => ?_)
          refine undel (d := 30) rfl ?_
          refine eWeak (weak_settle (k := 30) rfl (by repeat constructor) (by first | (simp; done) | rfl)) (fun b hb => by simp [owns, HA.own] at hb ⊢; first | (rcases hb with h | h | h | h <;> simp [h]; done) | (rcases hb with h | h | h <;> simp [h]; done) | (rcases hb with h | h <;> simp [h]; done) | (simp [hb]; done)) ?_
          refine eTwoS (i := 10) (j := 16) #[true, true, true, true, true, true, true, true, true, true, true, true, true, true, true, true, false, false, false, false] #[true, true, true, true, true, true, true, true, true, true, false, true, true, true, true, true, true, false, false, false] rfl rfl (HT.two (by kernel_rfl)) (by decide) (by decide) ?_ ?_
          ·skip
           refine stQ (wantN rfl) (fun t ht => by cases ht <;> decide) ?_
           refine qLit (l := [_]) rfl rfl (by decide) us_39 ty_9 ze_9 rfl (by decide) (by decide) rfl rfl rfl (fun b40 => ?_)
           refine undel (d := 40) rfl ?_
           refine eWeak (weak_settle (k := 40) rfl (by repeat constructor) (by first | (simp; done) | rfl)) (fun b hb => by simp [owns, HA.own] at hb ⊢; first | (rcases hb with h | h | h | h <;> simp [h]; done) | (rcases hb with h | h | h <;> simp [h]; done) | (rcases hb with h | h <;> simp [h]; done) | (simp [hb]; done)) ?_
           refine eOneS (i := 16) #[true, true, true, true, true, true, true, true, true, true, true, true, true, true, true, true, true, false, false, false] rfl (HT.one (by kernel_rfl)) (by decide) ?_
           ·skip
            refine stA (hx := [.know 1 (powO G.tp G.zp)]) (wantN rfl) (fun t ht => by cases ht <;> decide) (.cons (by repeat constructor) .nil) (by repeat constructor) ?_
            refine cai rfl rfl rfl (conf_nums_s (l := [x.ca, x.cb]) G (by simp) (fun z hz => by simp only [List.mem_cons, List.not_mem_nil, or_false] at hz; rcases hz with rfl | rfl <;> omega)) ?_
            refine undel (d := 46) rfl ?_
            try dsimp only [List.cons_append, List.nil_append]
            refine e1 HT 17 rfl ?_
            refine qLit (l := [_, _, _, _]) rfl rfl (by decide) us_60 ty_39 ze_39 rfl (by decide) (by decide) rfl rfl rfl (fun b47 => ?_)
            refine eWeak (weak_settle (k := 47) rfl (by repeat constructor) (by first | (simp; done) | rfl)) (fun b hb => by simp [owns, HA.own] at hb ⊢; first | (rcases hb with h | h | h | h <;> simp [h]; done) | (rcases hb with h | h | h <;> simp [h]; done) | (rcases hb with h | h <;> simp [h]; done) | (simp [hb]; done)) ?_
            refine eOneS (i := 18) #[true, true, true, true, true, true, true, true, true, true, true, true, true, true, true, true, true, true, true, false] rfl (HT.one (by kernel_rfl)) (by decide) ?_
            ·skip
             refine stA (hx := []) (wantN rfl) (fun t ht => by cases ht <;> decide) .nil (by repeat constructor) ?_
             first | refine coM rfl rfl rfl (concat_S (l := [[[119, 105, 114, 101]], [itoa x.a, itoa x.b], [howS x.u], [itoa x.ca, itoa x.cb]]) (by simp) (by simp)) (fun g48 k48 => ?_) | refine co rfl rfl rfl (concat_S (l := [[[119, 105, 114, 101]], [itoa x.a, itoa x.b], [howS x.u], [itoa x.ca, itoa x.cb]]) (by simp) (by simp)) (fun g48 k48 => ?_)
             refine undel (d := 48) rfl ?_
             try dsimp only [List.cons_append, List.nil_append]
             refine ef HT 19 rfl pMa ?_
             refine eE HT ?_
             clear HT
             refine ⟨(_, _), ?_, ⟨gLen rfl (by first | rfl | simp | (simp; omega)), rfl, rfl, rfl, rfl, trivial⟩, _, (by repeat constructor)⟩
             trivial
          ·skip
           refine stA (hx := [.know 1 (powO G.tp G.zp)]) (wantN rfl) (fun t ht => by cases ht <;> decide) (.cons (by repeat constructor) .nil) (by repeat constructor) ?_
           refine cai rfl rfl rfl (conf_nums_s (l := [x.ca, x.cb]) G (by simp) (fun z hz => by simp only [List.mem_cons, List.not_mem_nil, or_false] at hz; rcases hz with rfl | rfl <;> omega)) ?_
           refine undel (d := 46) rfl ?_
           try dsimp only [List.cons_append, List.nil_append]
           refine e1 HT 10 rfl ?_
           refine qLit (l := [_]) rfl rfl (by decide) us_39 ty_9 ze_9 rfl (by decide) (by decide) rfl rfl rfl (fun b40 => ?_)
           refine eWeak (weak_settle (k := 40) rfl (by repeat constructor) (by first | (simp; done) | rfl)) (fun b hb => by simp [owns, HA.own] at hb ⊢; first | (rcases hb with h | h | h | h <;> simp [h]; done) | (rcases hb with h | h | h <;> simp [h]; done) | (rcases hb with h | h <;> simp [h]; done) | (simp [hb]; done)) ?_
           refine e1 HT 17 rfl ?_
           refine qLit (l := [_, _, _, _]) rfl rfl (by decide) us_60 ty_39 ze_39 rfl (by decide) (by decide) rfl rfl rfl (fun b47 => ?_)
           refine eWeak (weak_settle (k := 47) rfl (by repeat constructor) (by first | (simp; done) | rfl)) (fun b hb => by simp [owns, HA.own] at hb ⊢; first | (rcases hb with h | h | h | h <;> simp [h]; done) | (rcases hb with h | h | h <;> simp [h]; done) | (rcases hb with h | h <;> simp [h]; done) | (simp [hb]; done)) ?_
           refine eOneS (i := 18) #[true, true, true, true, true, true, true, true, true, true, true, true, true, true, true, true, true, true, true, false] rfl (HT.one (by kernel_rfl)) (by decide) ?_
           ·skip
            refine stA (hx := []) (wantN rfl) (fun t ht => by cases ht <;> decide) .nil (by repeat constructor) ?_
            first | refine coM rfl rfl rfl (concat_S (l := [[[119, 105, 114, 101]], [itoa x.a, itoa x.b], [howS x.u], [itoa x.ca, itoa x.cb]]) (by simp) (by simp)) (fun g48 k48 => ?_) | refine co rfl rfl rfl (concat_S (l := [[[119, 105, 114, 101]], [itoa x.a, itoa x.b], [howS x.u], [itoa x.ca, itoa x.cb]]) (by simp) (by simp)) (fun g48 k48 => ?_)
            refine undel (d := 48) rfl ?_
            try dsimp only [List.cons_append, List.nil_append]
            refine ef HT 19 rfl pMa ?_
            refine eE HT ?_
            clear HT
            refine ⟨(_, _), ?_, ⟨gLen rfl (by first | rfl | simp | (simp; omega)), rfl, rfl, rfl, rfl, trivial⟩, _, (by repeat constructor)⟩
            trivial
         ·skip
          refine stQ (wantN rfl) (fun t ht => by cases ht <;> decide) ?_
          refine qLit (l := [_]) rfl rfl (by decide) us_39 ty_9 ze_9 rfl (by decide) (by decide) rfl rfl rfl (fun b40 => ?_)
          refine undel (d := 40) rfl ?_
          refine eWeak (weak_settle (k := 40) rfl (by repeat constructor) (by first | (simp; done) | rfl)) (fun b hb => by simp [owns, HA.own] at hb ⊢; first | (rcases hb with h | h | h | h <;> simp [h]; done) | (rcases hb with h | h | h <;> simp [h]; done) | (rcases hb with h | h <;> simp [h]; done) | (simp [hb]; done)) ?_
          refine eTwoS (i := 0) (j := 16) #[true, true, true, true, true, true, true, true, true, true, true, true, true, true, true, true, false, false, false, false] #[false, true, true, true, true, true, true, true, true, true, true, true, true, true, true, true, true, false, false, false] rfl rfl (HT.two (by kernel_rfl)) (by decide) (by decide) ?_ ?_
          ·skip
           refine stQ (wantN rfl) (fun t ht => by cases ht <;> decide) ?_
           refine qLit (l := [_]) rfl rfl (by decide) us_39 ty_9 ze_9 rfl (by decide) (by decide) rfl rfl rfl (fun b30 => ?_)
           refine undel (d := 30) rfl ?_
           refine eWeak (weak_settle (k := 30) rfl (by repeat constructor) (by first | (simp; done) | rfl)) (fun b hb => by simp [owns, HA.own] at hb ⊢; first | (rcases hb with h | h | h | h <;> simp [h]; done) | (rcases hb with h | h | h <;> simp [h]; done) | (rcases hb with h | h <;> simp [h]; done) | (simp [hb]; done)) ?_
           refine eOneS (i := 16) #[true, true, true, true, true, true, true, true, true, true, true, true, true, true, true, true, true, false, false, false] rfl (HT.one (by kernel_rfl)) (by decide) ?_
           ·skip
            refine stA (hx := [.know 1 (powO G.tp G.zp)]) (wantN rfl) (fun t ht => by cases ht <;> decide) (.cons (by repeat constructor) .nil) (by repeat constructor) ?_
            refine cai rfl rfl rfl (conf_nums_s (l := [x.ca, x.cb]) G (by simp) (fun z hz => by simp only [List.mem_cons, List.not_mem_nil, or_false] at hz; rcases hz with rfl | rfl <;> omega)) ?_
            refine undel (d := 46) rfl ?_
            try dsimp only [List.cons_append, List.nil_append]
            refine e1 HT 17 rfl ?_
            refine qLit (l := [_, _, _, _]) rfl rfl (by decide) us_60 ty_39 ze_39 rfl (by decide) (by decide) rfl rfl rfl (fun b47 => ?_)
            refine eWeak (weak_settle (k := 47) rfl (by repeat constructor) (by first | (simp; done) | rfl)) (fun b hb => by simp [owns, HA.own] at hb ⊢; first | (rcases hb with h | h | h | h <;> simp [h]; done) | (rcases hb with h | h | h <;> simp [h]; done) | (rcases hb with h | h <;> simp [h]; done) | (simp [hb]; done)) ?_
            refine eOneS (i := 18) #[true, true, true, true, true, true, true, true, true, true, true, true, true, true, true, true, true, true, true, false] rfl (HT.one (by kernel_rfl)) (by decide) ?_
            ·skip
             refine stA (hx := []) (wantN rfl) (fun t ht => by cases ht <;> decide) .nil (by repeat constructor) ?_
             first | refine coM rfl rfl rfl (concat_S (l := [[[119, 105, 114, 101]], [itoa x.a, itoa x.b], [howS x.u], [itoa x.ca, itoa x.cb]]) (by simp) (by simp)) (fun g48 k48 => ?_) | refine co rfl rfl rfl (concat_S (l := [[[119, 105, 114, 101]], [itoa x.a, itoa x.b], [howS x.u], [itoa x.ca, itoa x.cb]]) (by simp) (by simp)) (fun g48 k48 => ?_)
             refine undel (d := 48) rfl ?_
             try dsimp only [List.cons_append, List.nil_append]
             refine ef HT 19 rfl pMa ?_
             refine eE HT ?_
             clear HT
             refine ⟨(_, _), ?_, ⟨gLen rfl (by first | rfl | simp | (simp; omega)), rfl, rfl, rfl, rfl, trivial⟩, _, (by repeat constructor)⟩
             trivial
          ·skip
           refine stA (hx := [.know 1 (powO G.tp G.zp)]) (wantN rfl) (fun t ht => by cases ht <;> decide) (.cons (by repeat constructor) .nil) (by repeat constructor) ?_
           refine cai rfl rfl rfl (conf_nums_s (l := [x.ca, x.cb]) G (by simp) (fun z hz => by simp only [List.mem_cons, List.not_mem_nil, or_false] at hz; rcases hz with rfl | rfl <;> omega)) ?_
           refine undel (d := 46) rfl ?_
           try dsimp only [List.cons_append, List.nil_append]
           refine e1 HT 0 rfl ?_
           refine qLit (l := [_]) rfl rfl (by decide) us_39 ty_9 ze_9 rfl (by decide) (by decide) rfl rfl rfl (fun b30 => ?_)
           refine eWeak (weak_settle (k := 30) rfl (by repeat constructor) (by first | (simp; done) | rfl)) (fun b hb => by simp [owns, HA.own] at hb ⊢; first | (rcases hb with h | h | h | h <;> simp [h]; done) | (rcases hb with h | h | h <;> simp [h]; done) | (rcases hb with h | h <;> simp [h]; done) | (simp [hb]; done)) ?_
           refine e1 HT 17 rfl ?_
           refine qLit (l := [_, _, _, _]) rfl rfl (by decide) us_60 ty_39 ze_39 rfl (by decide) (by decide) rfl rfl rfl (fun b47 => ?_)
           refine eWeak (weak_settle (k := 47) rfl (by repeat constructor) (by first | (simp; done) | rfl)) (fun b hb => by simp [owns, HA.own] at hb ⊢; first | (rcases hb with h | h | h | h <;> simp [h]; done) | (rcases hb with h | h | h <;> simp [h]; done) | (rcases hb with h | h <;> simp [h]; done) | (simp [hb]; done)) ?_
           refine eOneS (i := 18) #[true, true, true, true, true, true, true, true, true, true, true, true, true, true, true, true, true, true, true, false] rfl (HT.one (by kernel_rfl)) (by decide) ?_
           ·skip
            refine stA (hx := []) (wantN rfl) (fun t ht => by cases ht <;> decide) .nil (by repeat constructor) ?_
            first | refine coM rfl rfl rfl (concat_S (l := [[[119, 105, 114, 101]], [itoa x.a, itoa x.b], [howS x.u], [itoa x.ca, itoa x.cb]]) (by simp) (by simp)) (fun g48 k48 => ?_) | refine co rfl rfl rfl (concat_S (l := [[[119, 105, 114, 101]], [itoa x.a, itoa x.b], [howS x.u], [itoa x.ca, itoa x.cb]]) (by simp) (by simp)) (fun g48 k48 => ?_)
            refine undel (d := 48) rfl ?_
            try dsimp only [List.cons_append, List.nil_append]
            refine ef HT 19 rfl pMa ?_
            refine eE HT ?_
            clear HT
            refine ⟨(_, _), ?_, ⟨gLen rfl (by first | rfl | simp | (simp; omega)), rfl, rfl, rfl, rfl, trivial⟩, _, (by repeat constructor)⟩
            trivial
         ·skip
          refine stA (hx := [.know 1 (powO G.tp G.zp)]) (wantN rfl) (fun t ht => by cases ht <;> decide) (.cons (by repeat constructor) .nil) (by repeat constructor) ?_
          refine cai rfl rfl rfl (conf_nums_s (l := [x.ca, x.cb]) G (by simp) (fun z hz => by simp only [List.mem_cons, List.not_mem_nil, or_false] at hz; rcases hz with rfl | rfl <;> omega)) ?_
          refine undel (d := 46) rfl ?_
          try dsimp only [List.cons_append, List.nil_append]
          refine eTwoS (i := 0) (j := 10) #[true, true, true, true, true, true, true, true, true, true, false, true, true, true, true, true, true, false, false, false] #[false, true, true, true, true, true, true, true, true, true, true, true, true, true, true, true, true, false, false, false] rfl rfl (HT.two (by kernel_rfl)) (by decide) (by decide) ?_ ?_
          ·skip
           refine stQ (wantN rfl) (fun t ht => by cases ht <;> decide) ?_
           refine qLit (l := [_]) rfl rfl (by decide) us_39 ty_9 ze_9 rfl (by decide) (by decide) rfl rfl rfl (fun b30 => ?_)
           refine undel (d := 30) rfl ?_
           refine eWeak (weak_settle (k := 30) rfl (by repeat constructor) (by first | (simp; done) | rfl)) (fun b hb => by simp [owns, HA.own] at hb ⊢; first | (rcases hb with h | h | h | h <;> simp [h]; done) | (rcases hb with h | h | h <;> simp [h]; done) | (rcases hb with h | h <;> simp [h]; done) | (simp [hb]; done)) ?_
           refine e1 HT 10 rfl ?_
           refine qLit (l := [_]) rfl rfl (by decide) us_39 ty_9 ze_9 rfl (by decide) (by decide) rfl rfl rfl (fun b40 => ?_)
           refine eWeak (weak_settle (k := 40) rfl (by repeat constructor) (by first | (simp; done) | rfl)) (fun b hb => by simp [owns, HA.own] at hb ⊢; first | (rcases hb with h | h | h | h <;> simp [h]; done) | (rcases hb with h | h | h <;> simp [h]; done) | (rcases hb with h | h <;> simp [h]; done) | (simp [hb]; done)) ?_
           refine e1 HT 17 rfl ?_
           refine qLit (l := [_, _, _, _]) rfl rfl (by decide) us_60 ty_39 ze_39 rfl (by decide) (by decide) rfl rfl rfl (fun b47 => ?_)
           refine eWeak (weak_settle (k := 47) rfl (by repeat constructor) (by first | (simp; done) | rfl)) (fun b hb => by simp [owns, HA.own] at hb ⊢; first | (rcases hb with h | h | h | h <;> simp [h]; done) | (rcases hb with h | h | h <;> simp [h]; done) | (rcases hb with h | h <;> simp [h]; done) | (simp [hb]; done)) ?_
           refine eOneS (i := 18) #[true, true, true, true, true, true, true, true, true, true, true, true, true, true, true, true, true, true, true, false] rfl (HT.one (by kernel_rfl)) (by decide) ?_
           ·skip
            refine stA (hx := []) (wantN rfl) (fun t ht => by cases ht <;> decide) .nil (by repeat constructor) ?_
            first | refine coM rfl rfl rfl (concat_S (l := [[[119, 105, 114, 101]], [itoa x.a, itoa x.b], [howS x.u], [itoa x.ca, itoa x.cb]]) (by simp) (by simp)) (fun g48 k48 => ?_) | refine co rfl rfl rfl (concat_S (l := [[[119, 105, 114, 101]], [itoa x.a, itoa x.b], [howS x.u], [itoa x.ca, itoa x.cb]]) (by simp) (by simp)) (fun g48 k48 => ?_)
            refine undel (d := 48) rfl ?_
            try dsimp only [List.cons_append, List.nil_append]
            refine ef HT 19 rfl pMa ?_
            refine eE HT ?_
            clear HT
            refine ⟨(_, _), ?_, ⟨gLen rfl (by first | rfl | simp | (simp; omega)), rfl, rfl, rfl, rfl, trivial⟩, _, (by repeat constructor)⟩
            trivial
          ·skip
           refine stQ (wantN rfl) (fun t ht => by cases ht <;> decide) ?_
           refine qLit (l := [_]) rfl rfl (by decide) us_39 ty_9 ze_9 rfl (by decide) (by decide) rfl rfl rfl (fun b40 => ?_)
           refine undel (d := 40) rfl ?_
           refine eWeak (weak_settle (k := 40) rfl (by repeat constructor) (by first | (simp; done) | rfl)) (fun b hb => by simp [owns, HA.own] at hb ⊢; first | (rcases hb with h | h | h | h <;> simp [h]; done) | (rcases hb with h | h | h <;> simp [h]; done) | (rcases hb with h | h <;> simp [h]; done) | (simp [hb]; done)) ?_
           refine e1 HT 0 rfl ?_
           refine qLit (l := [_]) rfl rfl (by decide) us_39 ty_9 ze_9 rfl (by decide) (by decide) rfl rfl rfl (fun b30 => ?_)
           refine eWeak (weak_settle (k := 30) rfl (by repeat constructor) (by first | (simp; done) | rfl)) (fun b hb => by simp [owns, HA.own] at hb ⊢; first | (rcases hb with h | h | h | h <;> simp [h]; done) | (rcases hb with h | h | h <;> simp [h]; done) | (rcases hb with h | h <;> simp [h]; done) | (simp [hb]; done)) ?_
           refine e1 HT 17 rfl ?_
           refine qLit (l := [_, _, _, _]) rfl rfl (by decide) us_60 ty_39 ze_39 rfl (by decide) (by decide) rfl rfl rfl (fun b47 => ?_)
           refine eWeak (weak_settle (k := 47) rfl (by repeat constructor) (by first | (simp; done) | rfl)) (fun b hb => by simp [owns, HA.own] at hb ⊢; first | (rcases hb with h | h | h | h <;> simp [h]; done) | (rcases hb with h | h | h <;> simp [h]; done) | (rcases hb with h | h <;> simp [h]; done) | (simp [hb]; done)) ?_
           refine eOneS (i := 18) #[true, true, true, true, true, true, true, true, true, true, true, true, true, true, true, true, true, true, true, false] rfl (HT.one (by kernel_rfl)) (by decide) ?_
           ·skip
            refine stA (hx := []) (wantN rfl) (fun t ht => by cases ht <;> decide) .nil (by repeat constructor) ?_
            first | refine coM rfl rfl rfl (concat_S (l := [[[119, 105, 114, 101]], [itoa x.a, itoa x.b], [howS x.u], [itoa x.ca, itoa x.cb]]) (by simp) (by simp)) (fun g48 k48 => ?_) | refine co rfl rfl rfl (concat_S (l := [[[119, 105, 114, 101]], [itoa x.a, itoa x.b], [howS x.u], [itoa x.ca, itoa x.cb]]) (by simp) (by simp)) (fun g48 k48 => ?_)
            refine undel (d := 48) rfl ?_
            try dsimp only [List.cons_append, List.nil_append]
            refine ef HT 19 rfl pMa ?_
            refine eE HT ?_
            clear HT
            refine ⟨(_, _), ?_, ⟨gLen rfl (by first | rfl | simp | (simp; omega)), rfl, rfl, rfl, rfl, trivial⟩, _, (by repeat constructor)⟩
            trivial
     ·skip
      refine stQ (wantN rfl) (fun t ht => by cases ht <;> decide) ?_
      refine qLit (l := [_, _]) rfl rfl (by decide) us_62 ty_3 ze_3 rfl (by decide) (by decide) rfl rfl rfl (fun b45 => ?_)
      refine undel (d := 45) rfl ?_
      refine eWeak (weak_settle (k := 45) rfl (by repeat constructor) (by first | (simp; done) | rfl)) (fun b hb => by simp [owns, HA.own] at hb ⊢; first | (rcases hb with h | h | h | h <;> simp [h]; done) | (rcases hb with h | h | h <;> simp [h]; done) | (rcases hb with h | h <;> simp [h]; done) | (simp [hb]; done)) ?_
      refine eTwoS (i := 0) (j := 5) #[true, true, true, true, true, false, false, true, true, false, false, true, true, true, true, true, false, false, false, false] #[false, true, true, true, true, true, false, true, true, false, false, true, true, true, true, true, false, false, false, false] rfl rfl (HT.two (by kernel_rfl)) (by decide) (by decide) ?_ ?_
      ·skip
       refine stQ (wantN rfl) (fun t ht => by cases ht <;> decide) ?_
       refine qLit (l := [_]) rfl rfl (by decide) us_39 ty_9 ze_9 rfl (by decide) (by decide) rfl rfl rfl (fun b30 => ?_)
       refine undel (d := 30) rfl ?_
       refine eWeak (weak_settle (k := 30) rfl (by repeat constructor) (by first | (simp; done) | rfl)) (fun b hb => by simp [owns, HA.own] at hb ⊢; first | (rcases hb with h | h | h | h <;> simp [h]; done) | (rcases hb with h | h | h <;> simp [h]; done) | (rcases hb with h | h <;> simp [h]; done) | (simp [hb]; done)) ?_
       refine e1 HT 5 rfl ?_
       refine qLit (l := [_, _]) rfl rfl (by decide) us_62 ty_3 ze_3 rfl (by decide) (by decide) rfl rfl rfl (fun b35 => ?_)
       refine eWeak (weak_settle (k := 35) rfl (by repeat constructor) (by first | (simp; done) | rfl)) (fun b hb => by simp [owns, HA.own] at hb ⊢; first | (rcases hb with h | h | h | h <;> simp [h]; done) | (rcases hb with h | h | h <;> simp [h]; done) | (rcases hb with h | h <;> simp [h]; done) | (simp [hb]; done)) ?_
       refine eOneS (i := 6) #[true, true, true, true, true, true, true, true, true, false, false, true, true, true, true, true, false, false, false, false] rfl (HT.one (by kernel_rfl)) (by decide) ?_
       ·skip
        refine stA (hx := [.know 1 (powO G.tp G.zp)]) (wantN rfl) (fun t ht => by cases ht <;> decide) (.cons (by repeat constructor) .nil) (by repeat constructor) ?_
        refine cai rfl rfl rfl (conf_nums_s (l := [x.a, x.b]) G (by simp) (fun z hz => by simp only [List.mem_cons, List.not_mem_nil, or_false] at hz; rcases hz with rfl | rfl <;> omega)) ?_
        refine undel (d := 36) rfl ?_
        try dsimp only [List.cons_append, List.nil_append]
        refine e1 HT 9 rfl ?_
        refine cv rfl rfl rfl (lents_refl _) (conf_how (u := x.u)) ?_
        refine eTwoS (i := 10) (j := 16) #[true, true, true, true, true, true, true, true, true, true, true, true, true, true, true, true, false, false, false, false] #[true, true, true, true, true, true, true, true, true, true, false, true, true, true, true, true, true, false, false, false] rfl rfl (HT.two (by kernel_rfl)) (by decide) (by decide) ?_ ?_
        ·skip
         refine stQ (wantN rfl) (fun t ht => by cases ht <;> decide) ?_
         refine qLit (l := [_]) rfl rfl (by decide) us_39 ty_9 ze_9 rfl (by decide) (by decide) rfl rfl rfl (fun b40 => ?_)
         refine undel (d := 40) rfl ?_
         refine eWeak (weak_settle (k := 40) rfl (by repeat constructor) (by first | (simp; done) | rfl)) (fun b hb => by simp [owns, HA.own] at hb ⊢; first | (rcases hb with h | h | h | h <;> simp [h]; done) | (rcases hb with h | h | h <;> simp [h]; done) | (rcases hb with h | h <;> simp [h]; done) | (simp [hb]; done)) ?_
         refine eOneS (i := 16) #[true, true, true, true, true, true, true, true, true, true, true, true, true, true, true, true, true, false, false, false] rfl (HT.one (by kernel_rfl)) (by decide) ?_
         ·skip
          refine stA (hx := [.know 1 (powO G.tp G.zp)]) (wantN rfl) (fun t ht => by cases ht <;> decide) (.cons (by repeat constructor) .nil) (by repeat constructor) ?_
          refine cai rfl rfl rfl (conf_nums_s (l := [x.ca, x.cb]) G (by simp) (fun z hz => by simp only [List.mem_cons, List.not_mem_nil, or_false] at hz; rcases hz with rfl | rfl <;> omega)) ?_
          refine undel (d := 46) rfl ?_
          try dsimp only [List.cons_append, List.nil_append]
          refine e1 HT 17 rfl ?_
          refine qLit (l := [_, _, _, _]) rfl rfl (by decide) us_60 ty_39 ze_39 rfl (by decide) (by decide) rfl rfl rfl (fun b47 => ?_)
          refine eWeak (weak_settle (k := 47) rfl (by repeat constructor) (by first | (simp; done) | rfl)) (fun b hb => by simp [owns, HA.own] at hb ⊢; first | (rcases hb with h | h | h | h <;> simp [h]; done) | (rcases hb with h | h | h <;> simp [h]; done) | (rcases hb with h | h <;> simp [h]; done) | (simp [hb]; done)) ?_
          refine eOneS (i := 18) #[true, true, true, true, true, true, true, true, true, true, true, true, true, true, true, true, true, true, true, false] rfl (HT.one (by kernel_rfl)) (by decide) ?_
          ·skip
           refine stA (hx := []) (wantN rfl) (fun t ht => by cases ht <;> decide) .nil (by repeat constructor) ?_
           first | refine coM rfl rfl rfl (concat_S (l := [[[119, 105, 114, 101]], [itoa x.a, itoa x.b], [howS x.u], [itoa x.ca, itoa x.cb]]) (by simp) (by simp)) (fun g48 k48 => ?_) | refine co rfl rfl rfl (concat_S (l := [[[119, 105, 114, 101]], [itoa x.a, itoa x.b], [howS x.u], [itoa x.ca, itoa x.cb]]) (by simp) (by simp)) (fun g48 k48 => ?_)
           refine undel (d := 48) rfl ?_
           try dsimp only [List.cons_append, List.nil_append]
           refine ef HT 19 rfl pMa ?_
           refine eE HT ?_
           clear HT
           refine ⟨(_, _), ?_, ⟨gLen rfl (by first | rfl | simp | (simp; omega)), rfl, rfl, rfl, rfl, trivial⟩, _, (by repeat constructor)⟩
           trivial
        ·skip
         refine stA (hx := [.know 1 (powO G.tp G.zp)]) (wantN rfl) (fun t ht => by cases ht <;> decide) (.cons (by repeat constructor) .nil) (by repeat constructor) ?_
         refine cai rfl rfl rfl (conf_nums_s (l := [x.ca, x.cb]) G (by simp) (fun z hz => by simp only [List.mem_cons, List.not_mem_nil, or_false] at hz; rcases hz with rfl | rfl <;> omega)) ?_
         refine undel (d := 46) rfl ?_
         try dsimp only [List.cons_append, List.nil_append]
         refine e1 HT 10 rfl ?_
         refine qLit (l := [_]) rfl rfl (by decide) us_39 ty_9 ze_9 rfl (by decide) (by decide) rfl rfl rfl (fun b40 => ?_)
         refine eWeak (weak_settle (k := 40) rfl (by repeat constructor) (by first | (simp; done) | rfl)) (fun b hb => by simp [owns, HA.own] at hb ⊢; first | (rcases hb with h | h | h | h <;> simp [h]; done) | (rcases hb with h | h | h <;> simp [h]; done) | (rcases hb with h | h <;> simp [h]; done) | (simp [hb]; done)) ?_
         refine e1 HT 17 rfl ?_
         refine qLit (l := [_, _, _, _]) rfl rfl (by decide) us_60 ty_39 ze_39 rfl (by decide) (by decide) rfl rfl rfl (fun b47 => ?_)
         refine eWeak (weak_settle (k := 47) rfl (by repeat constructor) (by first | (simp; done) | rfl)) (fun b hb => by simp [owns, HA.own] at hb ⊢; first | (rcases hb with h | h | h | h <;> simp [h]; done) | (rcases hb with h | h | h <;> simp [h]; done) | (rcases hb with h | h <;> simp [h]; done) | (simp [hb]; done)) ?_
         refine eOneS (i := 18) #[true, true, true, true, true, true, true, true, true, true, true, true, true, true, true, true, true, true, true, false] rfl (HT.one (by kernel_rfl)) (by decide) ?_
         ·skip
          refine stA (hx := []) (wantN rfl) (fun t ht => by cases ht <;> decide) .nil (by repeat constructor) ?_
          first | refine coM rfl rfl rfl (concat_S (l := [[[119, 105, 114, 101]], [itoa x.a, itoa x.b], [howS x.u], [itoa x.ca, itoa x.cb]]) (by simp) (by simp)) (fun g48 k48 => ?_) | refine co rfl rfl rfl (concat_S (l := [[[119, 105, 114, 101]], [itoa x.a, itoa x.b], [howS x.u], [itoa x.ca, itoa x.cb]]) (by simp) (by simp)) (fun g48 k48 => ?_)
          refine undel (d := 48) rfl ?_
          try dsimp only [List.cons_append, List.nil_append]
          refine ef HT 19 rfl pMa ?_
          refine eE HT ?_
          clear HT
          refine ⟨(_, _), ?_, ⟨gLen rfl (by first | rfl | simp | (simp; omega)), rfl, rfl, rfl, rfl, trivial⟩, _, (by repeat constructor)⟩
          trivial
      ·skip
       refine stQ (wantN rfl) (fun t ht => by cases ht <;> decide) ?_
       refine qLit (l := [_, _]) rfl rfl (by decide) us_62 ty_3 ze_3 rfl (by decide) (by decide) rfl rfl rfl (fun b35 => ?_)
       refine undel (d := 35) rfl ?_
       refine eWeak (weak_settle (k := 35) rfl (by repeat constructor) (by first | (simp; done) | rfl)) (fun b hb => by simp [owns, HA.own] at hb ⊢; first | (rcases hb with h | h | h | h <;> simp [h]; done) | (rcases hb with h | h | h <;> simp [h]; done) | (rcases hb with h | h <;> simp [h]; done) | (simp [hb]; done)) ?_
       refine eTwoS (i := 0) (j := 6) #[true, true, true, true, true, true, false, true, true, false, false, true, true, true, true, true, false, false, false, false] #[false, true, true, true, true, true, true, true, true, false, false, true, true, true, true, true, false, false, false, false] rfl rfl (HT.two (by kernel_rfl)) (by decide) (by decide) ?_ ?_
       ·skip
        refine stQ (wantN rfl) (fun t ht => by cases ht <;> decide) ?_
        refine qLit (l := [_]) rfl rfl (by decide) us_39 ty_9 ze_9 rfl (by decide) (by decide) rfl rfl rfl (fun b30 => ?_)
        refine undel (d := 30) rfl ?_
        refine eWeak (weak_settle (k := 30) rfl (by repeat constructor) (by first | (simp; done) | rfl)) (fun b hb => by simp [owns, HA.own] at hb ⊢; first | (rcases hb with h | h | h | h <;> simp [h]; done) | (rcases hb with h | h | h <;> simp [h]; done) | (rcases hb with h | h <;> simp [h]; done) | (simp [hb]; done)) ?_
        refine eOneS (i := 6) #[true, true, true, true, true, true, true, true, true, false, false, true, true, true, true, true, false, false, false, false] rfl (HT.one (by kernel_rfl)) (by decide) ?_
        ·skip
         refine stA (hx := [.know 1 (powO G.tp G.zp)]) (wantN rfl) (fun t ht => by cases ht <;> decide) (.cons (by repeat constructor) .nil) (by repeat constructor) ?_
         refine cai rfl rfl rfl (conf_nums_s (l := [x.a, x.b]) G (by simp) (fun z hz => by simp only [List.mem_cons, List.not_mem_nil, or_false] at hz; rcases hz with rfl | rfl <;> omega)) ?_
         refine undel (d := 36) rfl ?_
         try dsimp only [List.cons_append, List.nil_append]
         refine e1 HT 9 rfl ?_
         refine cv rfl rfl rfl (lents_refl _) (conf_how (u := x.u)) ?_
         refine eTwoS (i := 10) (j := 16) #[true, true, true, true, true, true, true, true, true, true, true, true, true, true, true, true, false, false, false, false] #[true, true, true, true, true, true, true, true, true, true, false, true, true, true, true, true, true, false, false, false] rfl rfl (HT.two (by kernel_rfl)) (by decide) (by decide) ?_ ?_
         ·skip
          refine stQ (wantN rfl) (fun t ht => by cases ht <;> decide) ?_
          refine qLit (l := [_]) rfl rfl (by decide) us_39 ty_9 ze_9 rfl (by decide) (by decide) rfl rfl rfl (fun b40 => ?_)
          refine undel (d := 40) rfl ?_
          refine eWeak (weak_settle (k := 40) rfl (by repeat constructor) (by first | (simp; done) | rfl)) (fun b hb => by simp [owns, HA.own] at hb ⊢; first | (rcases hb with h | h | h | h <;> simp [h]; done) | (rcases hb with h | h | h <;> simp [h]; done) | (rcases hb with h | h <;> simp [h]; done) | (simp [hb]; done)) ?_
          refine eOneS (i := 16) #[true, true, true, true, true, true, true, true, true, true, true, true, true, true, true, true, true, false, false, false] rfl (HT.one (by kernel_rfl)) (by decide) ?_
          ·skip
           refine stA (hx := [.know 1 (powO G.tp G.zp)]) (wantN rfl) (fun t ht => by cases ht <;> decide) (.cons (by repeat constructor) .nil) (by repeat constructor) ?_
           refine cai rfl rfl rfl (conf_nums_s (l := [x.ca, x.cb]) G (by simp) (fun z hz => by simp only [List.mem_cons, List.not_mem_nil, or_false] at hz; rcases hz with rfl | rfl <;> omega)) ?_
           refine undel (d := 46) rfl ?_
           try dsimp only [List.cons_append, List.nil_append]
           refine e1 HT 17 rfl ?_
           refine qLit (l := [_, _, _, _]) rfl rfl (by decide) us_60 ty_39 ze_39 rfl (by decide) (by decide) rfl rfl rfl (fun b47 => ?_)
           refine eWeak (weak_settle (k := 47) rfl (by repeat constructor) (by first | (simp; done) | rfl)) (fun b hb => by simp [owns, HA.own] at hb ⊢; first | (rcases hb with h | h | h | h <;> simp [h]; done) | (rcases hb with h | h | h <;> simp [h]; done) | (rcases hb with h | h <;> simp [h]; done) | (simp [hb]; done)) ?_
           refine eOneS (i := 18) #[true, true, true, true, true, true, true, true, true, true, true, true, true, true, true, true, true, true, true, false] rfl (HT.one (by kernel_rfl)) (by decide) ?_
           ·skip
            refine stA (hx := []) (wantN rfl) (fun t ht => by cases ht <;> decide) .nil (by repeat constructor) ?_
            first | refine coM rfl rfl rfl (concat_S (l := [[[119, 105, 114, 101]], [itoa x.a, itoa x.b], [howS x.u], [itoa x.ca, itoa x.cb]]) (by simp) (by simp)) (fun g48 k48 => ?_) | refine co rfl rfl rfl (concat_S (l := [[[119, 105, 114, 101]], [itoa x.a, itoa x.b], [howS x.u], [itoa x.ca, itoa x.cb]]) (by simp) (by simp)) (fun g48 k48 => ?_)
            refine undel (d := 48) rfl ?_
            try dsimp only [List.cons_append, List.nil_append]
            refine ef HT 19 rfl pMa ?_
            refine eE HT ?_
            clear HT
            refine ⟨(_, _), ?_, ⟨gLen rfl (by first | rfl | simp | (simp; omega)), rfl, rfl, rfl, rfl, trivial⟩, _, (by repeat constructor)⟩
            trivial
         ·skip
          refine stA (hx := [.know 1 (powO G.tp G.zp)]) (wantN rfl) (fun t ht => by cases ht <;> decide) (.cons (by repeat constructor) .nil) (by repeat constructor) ?_
          refine cai rfl rfl rfl (conf_nums_s (l := [x.ca, x.cb]) G (by simp) (fun z hz => by simp only [List.mem_cons, List.not_mem_nil, or_false] at hz; rcases hz with rfl | rfl <;> omega)) ?_
          refine undel (d := 46) rfl ?_
          try dsimp only [List.cons_append, List.nil_append]
          refine e1 HT 10 rfl ?_
          refine qLit (l := [_]) rfl rfl (by decide) us_39 ty_9 ze_9 rfl (by decide) (by decide) rfl rfl rfl (fun b40 => ?_)
          refine eWeak (weak_settle (k := 40) rfl (by repeat constructor) (by first | (simp; done) | rfl)) (fun b hb => by simp [owns, HA.own] at hb ⊢; first | (rcases hb with h | h | h | h <;> simp [h]; done) | (rcases hb with h | h | h <;> simp [h]; done) | (rcases hb with h | h <;> simp [h]; done) | (simp [hb]; done)) ?_
          refine e1 HT 17 rfl ?_
          refine qLit (l := [_, _, _, _]) rfl rfl (by decide) us_60 ty_39 ze_39 rfl (by decide) (by decide) rfl rfl rfl (fun b47 => ?_)
          refine eWeak (weak_settle (k := 47) rfl (by repeat constructor) (by first | (simp; done) | rfl)) (fun b hb => by simp [owns, HA.own] at hb ⊢; first | (rcases hb with h | h | h | h <;> simp [h]; done) | (rcases hb with h | h | h <;> simp [h]; done) | (rcases hb with h | h <;> simp [h]; done) | (simp [hb]; done)) ?_
          refine eOneS (i := 18) #[true, true, true, true, true, true, true, true, true, true, true, true, true, true, true, true, true, true, true, false] rfl (HT.one (by kernel_rfl)) (by decide) ?_
          ·skip
           refine stA (hx := []) (wantN rfl) (fun t ht => by cases ht <;> decide) .nil (by repeat constructor) ?_
           first | refine coM rfl rfl rfl (concat_S (l := [[[119, 105, 114, 101]], [itoa x.a, itoa x.b], [howS x.u], [itoa x.ca, itoa x.cb]]) (by simp) (by simp)) (fun g48 k48 => ?_) | refine co rfl rfl rfl (concat_S (l := [[[119, 105, 114, 101]], [itoa x.a, itoa x.b], [howS x.u], [itoa x.ca, itoa x.cb]]) (by simp) (by simp)) (fun g48 k48 => ?_)
           refine undel (d := 48) rfl ?_
           try dsimp only [List.cons_append, List.nil_append]
           refine ef HT 19 rfl pMa ?_
           refine eE HT ?_
           clear HT
           refine ⟨(_, _), ?_, ⟨gLen rfl (by first | rfl | simp | (simp; omega)), rfl, rfl, rfl, rfl, trivial⟩, _, (by repeat constructor)⟩
           trivial
       ·skip
        refine stA (hx := [.know 1 (powO G.tp G.zp)]) (wantN rfl) (fun t ht => by cases ht <;> decide) (.cons (by repeat constructor) .nil) (by repeat constructor) ?_
        refine cai rfl rfl rfl (conf_nums_s (l := [x.a, x.b]) G (by simp) (fun z hz => by simp only [List.mem_cons, List.not_mem_nil, or_false] at hz; rcases hz with rfl | rfl <;> omega)) ?_
        refine undel (d := 36) rfl ?_
        try dsimp only [List.cons_append, List.nil_append]
        refine eTwoS (i := 0) (j := 9) #[true, true, true, true, true, true, true, true, true, false, false, true, true, true, true, true, false, false, false, false] #[false, true, true, true, true, true, true, true, true, true, false, true, true, true, true, true, false, false, false, false] rfl rfl (HT.two (by kernel_rfl)) (by decide) (by decide) ?_ ?_
        ·skip
         refine stQ (wantN rfl) (fun t ht => by cases ht <;> decide) ?_
         refine qLit (l := [_]) rfl rfl (by decide) us_39 ty_9 ze_9 rfl (by decide) (by decide) rfl rfl rfl (fun b30 => ?_)
         refine undel (d := 30) rfl ?_
         refine eWeak (weak_settle (k := 30) rfl (by repeat constructor) (by first | (simp; done) | rfl)) (fun b hb => by simp [owns, HA.own] at hb ⊢; first | (rcases hb with h | h | h | h <;> simp [h]; done) | (rcases hb with h | h | h <;> simp [h]; done) | (rcases hb with h | h <;> simp [h]; done) | (simp [hb]; done)) ?_
         refine e1 HT 9 rfl ?_
         refine cv rfl rfl rfl (lents_refl _) (conf_how (u := x.u)) ?_
         refine eTwoS (i := 10) (j := 16) #[true, true, true, true, true, true, true, true, true, true, true, true, true, true, true, true, false, false, false, false] #[true, true, true, true, true, true, true, true, true, true, false, true, true, true, true, true, true, false, false, false] rfl rfl (HT.two (by kernel_rfl)) (by decide) (by decide) ?_ ?_
         ·skip
          refine stQ (wantN rfl) (fun t ht => by cases ht <;> decide) ?_
          refine qLit (l := [_]) rfl rfl (by decide) us_39 ty_9 ze_9 rfl (by decide) (by decide) rfl rfl rfl (fun b40 => ?_)
          refine undel (d := 40) rfl ?_
          refine eWeak (weak_settle (k := 40) rfl (by repeat constructor) (by first | (simp; done) | rfl)) (fun b hb => by simp [owns, HA.own] at hb ⊢; first | (rcases hb with h | h | h | h <;> simp [h]; done) | (rcases hb with h | h | h <;> simp [h]; done) | (rcases hb with h | h <;> simp [h]; done) | (simp [hb]; done)) ?_
          refine eOneS (i := 16) #[true, true, true, true, true, true, true, true, true, true, true, true, true, true, true, true, true, false, false, false] rfl (HT.one (by kernel_rfl)) (by decide) ?_
          ·skip
           refine stA (hx := [.know 1 (powO G.tp G.zp)]) (wantN rfl) (fun t ht => by cases ht <;> decide) (.cons (by repeat constructor) .nil) (by repeat constructor) ?_
           refine cai rfl rfl rfl (conf_nums_s (l := [x.ca, x.cb]) G (by simp) (fun z hz => by simp only [List.mem_cons, List.not_mem_nil, or_false] at hz; rcases hz with rfl | rfl <;> omega)) ?_
           refine undel (d := 46) rfl ?_
           try dsimp only [List.cons_append, List.nil_append]
           refine e1 HT 17 rfl ?_
           refine qLit (l := [_, _, _, _]) rfl rfl (by decide) us_60 ty_39 ze_39 rfl (by decide) (by decide) rfl rfl rfl (fun b47 => ?_)
           refine eWeak (weak_settle (k := 47) rfl (by repeat constructor) (by first | (simp; done) | rfl)) (fun b hb => by simp [owns, HA.own] at hb ⊢; first | (rcases hb with h | h | h | h <;> simp [h]; done) | (rcases hb with h | h | h <;> simp [h]; done) | (rcases hb with h | h <;> simp [h]; done) | (simp [hb]; done)) ?_
           refine eOneS (i := 18) #[true, true, true, true, true, true, true, true, true, true, true, true, true, true, true, true, true, true, true, false] rfl (HT.one (by kernel_rfl)) (by decide) ?_
           ·skip
            refine stA (hx := []) (wantN rfl) (fun t ht => by cases ht <;> decide) .nil (by repeat constructor) ?_
            first | refine coM rfl rfl rfl (concat_S (l := [[[119, 105, 114, 101]], [itoa x.a, itoa x.b], [howS x.u], [itoa x.ca, itoa x.cb]]) (by simp) (by simp)) (fun g48 k48 => ?_) | refine co rfl rfl rfl (concat_S (l := [[[119, 105, 114, 101]], [itoa x.a, itoa x.b], [howS x.u], [itoa x.ca, itoa x.cb]]) (by simp) (by simp)) (fun g48 k48 => ?_)
            refine undel (d := 48) rfl ?_
            try dsimp only [List.cons_append, List.nil_append]
            refine ef HT 19 rfl pMa ?_
            refine eE HT ?_
            clear HT
            refine ⟨(_, _), ?_, ⟨gLen rfl (by first | rfl | simp | (simp; omega)), rfl, rfl, rfl, rfl, trivial⟩, _, (by repeat constructor)⟩
            trivial
         ·skip
          refine stA (hx := [.know 1 (powO G.tp G.zp)]) (wantN rfl) (fun t ht => by cases ht <;> decide) (.cons (by repeat constructor) .nil) (by repeat constructor) ?_
          refine cai rfl rfl rfl (conf_nums_s (l := [x.ca, x.cb]) G (by simp) (fun z hz => by simp only [List.mem_cons, List.not_mem_nil, or_false] at hz; rcases hz with rfl | rfl <;> omega)) ?_
          refine undel (d := 46) rfl ?_
          try dsimp only [List.cons_append, List.nil_append]
          refine e1 HT 10 rfl ?_
          refine qLit (l := [_]) rfl rfl (by decide) us_39 ty_9 ze_9 rfl (by decide) (by decide) rfl rfl rfl (fun b40 => ?_)
          refine eWeak (weak_settle (k := 40) rfl (by repeat constructor) (by first | (simp; done) | rfl)) (fun b hb => by simp [owns, HA.own] at hb ⊢; first | (rcases hb with h | h | h | h <;> simp [h]; done) | (rcases hb with h | h | h <;> simp [h]; done) | (rcases hb with h | h <;> simp [h]; done) | (simp [hb]; done)) ?_
          refine e1 HT 17 rfl ?_
          refine qLit (l := [_, _, _, _]) rfl rfl (by decide) us_60 ty_39 ze_39 rfl (by decide) (by decide) rfl rfl rfl (fun b47 => ?_)
          refine eWeak (weak_settle (k := 47) rfl (by repeat constructor) (by first | (simp; done) | rfl)) (fun b hb => by simp [owns, HA.own] at hb ⊢; first | (rcases hb with h | h | h | h <;> simp [h]; done) | (rcases hb with h | h | h <;> simp [h]; done) | (rcases hb with h | h <;> simp [h]; done) | (simp [hb]; done)) ?_
          refine eOneS (i := 18) #[true, true, true, true, true, true, true, true, true, true, true, true, true, true, true, true, true, true, true, false] rfl (HT.one (by kernel_rfl)) (by decide) ?_
          ·skip
           refine stA (hx := []) (wantN rfl) (fun t ht => by cases ht <;> decide) .nil (by repeat constructor) ?_
           first | refine coM rfl rfl rfl (concat_S (l := [[[119, 105, 114, 101]], [itoa x.a, itoa x.b], [howS x.u], [itoa x.ca, itoa x.cb]]) (by simp) (by simp)) (fun g48 k48 => ?_) | refine co rfl rfl rfl (concat_S (l := [[[119, 105, 114, 101]], [itoa x.a, itoa x.b], [howS x.u], [itoa x.ca, itoa x.cb]]) (by simp) (by simp)) (fun g48 k48 => ?_)
           refine undel (d := 48) rfl ?_
           try dsimp only [List.cons_append, List.nil_append]
           refine ef HT 19 rfl pMa ?_
           refine eE HT ?_
           clear HT
           refine ⟨(_, _), ?_, ⟨gLen rfl (by first | rfl | simp | (simp; omega)), rfl, rfl, rfl, rfl, trivial⟩, _, (by repeat constructor)⟩
           trivial
        ·skip
         refine stQ (wantN rfl) (fun t ht => by cases ht <;> decide) ?_
         refine cv rfl rfl rfl (lents_refl _) (conf_how (u := x.u)) ?_
         refine undel (d := 39) rfl ?_
         refine eThreeS (i := 0) (j := 10) (k := 16) #[true, true, true, true, true, true, true, true, true, true, false, true, true, true, true, true, false, false, false, false] #[false, true, true, true, true, true, true, true, true, true, true, true, true, true, true, true, false, false, false, false] #[false, true, true, true, true, true, true, true, true, true, false, true, true, true, true, true, true, false, false, false] rfl rfl rfl (HT.three (by kernel_rfl)) (by decide) (by decide) (by decide) ?_ ?_ ?_
         ·skip
          refine stQ (wantN rfl) (fun t ht => by cases ht <;> decide) ?_
          refine qLit (l := [_]) rfl rfl (by decide) us_39 ty_9 ze_9 rfl (by decide) (by decide) rfl rfl rfl (fun b30 => ?_)
          refine undel (d := 30) rfl ?_
          refine eWeak (weak_settle (k := 30) rfl (by repeat constructor) (by first | (simp; done) | rfl)) (fun b hb => by simp [owns, HA.own] at hb ⊢; first | (rcases hb with h | h | h | h <;> simp [h]; done) | (rcases hb with h | h | h <;> simp [h]; done) | (rcases hb with h | h <;> simp [h]; done) | (simp [hb]; done)) ?_
          refine eTwoS (i := 10) (j := 16) #[true, true, true, true, true, true, true, true, true, true, true, true, true, true, true, true, false, false, false, false] #[true, true, true, true, true, true, true, true, true, true, false, true, true, true, true, true, true, false, false, false] rfl rfl (HT.two (by kernel_rfl)) (by decide) (by decide) ?_ ?_
          ·skip
           refine stQ (wantN rfl) (fun t ht => by cases ht <;> decide) ?_
           refine qLit (l := [_]) rfl rfl (by decide) us_39 ty_9 ze_9 rfl (by decide) (by decide) rfl rfl rfl (fun b40 => ?_)
           refine undel (d := 40) rfl ?_
           refine eWeak (weak_settle (k := 40) rfl (by repeat constructor) (by first | (simp; done) | rfl)) (fun b hb => by simp [owns, HA.own] at hb ⊢; first | (rcases hb with h | h | h | h <;> simp [h]; done) | (rcases hb with h | h | h <;> simp [h]; done) | (rcases hb with h | h <;> simp [h]; done) | (simp [hb]; done)) ?_
           refine eOneS (i := 16) #[true, true, true, true, true, true, true, true, true, true, true, true, true, true, true, true, true, false, false, false] rfl (HT.one (by kernel_rfl)) (by decide) ?_
           ·skip
            refine stA (hx := [.know 1 (powO G.tp G.zp)]) (wantN rfl) (fun t ht => by cases ht <;> decide) (.cons (by repeat constructor) .nil) (by repeat constructor) ?_
            refine cai rfl rfl rfl (conf_nums_s (l := [x.ca, x.cb]) G (by simp) (fun z hz => by simp only [List.mem_cons, List.not_mem_nil, or_false] at hz; rcases hz with rfl | rfl <;> omega)) ?_
            refine undel (d := 46) rfl ?_
            try dsimp only [List.cons_append, List.nil_append]
            refine e1 HT 17 rfl ?_
            refine qLit (l := [_, _, _, _]) rfl rfl (by decide) us_60 ty_39 ze_39 rfl (by decide) (by decide) rfl rfl rfl (fun b47 => ?_)
            refine eWeak (weak_settle (k := 47) rfl (by repeat constructor) (by first | (simp; done) | rfl)) (fun b hb => by simp [owns, HA.own] at hb ⊢; first | (rcases hb with h | h | h | h <;> simp [h]; done) | (rcases hb with h | h | h <;> simp [h]; done) | (rcases hb with h | h <;> simp [h]; done) | (simp [hb]; done)) ?_
            refine eOneS (i := 18) #[true, true, true, true, true, true, true, true, true, true, true, true, true, true, true, true, true, true, true, false] rfl (HT.one (by kernel_rfl)) (by decide) ?_
            ·skip
             refine stA (hx := []) (wantN rfl) (fun t ht => by cases ht <;> decide) .nil (by repeat constructor) ?_
             first | refine coM rfl rfl rfl (concat_S (l := [[[119, 105, 114, 101]], [itoa x.a, itoa x.b], [howS x.u], [itoa x.ca, itoa x.cb]]) (by simp) (by simp)) (fun g48 k48 => ?_) | refine co rfl rfl rfl (concat_S (l := [[[119, 105, 114, 101]], [itoa x.a, itoa x.b], [howS x.u], [itoa x.ca, itoa x.cb]]) (by simp) (by simp)) (fun g48 k48 => ?_)
             refine undel (d := 48) rfl ?_
             try dsimp only [List.cons_append, List.nil_append]
             refine ef HT 19 rfl pMa ?_
             refine eE HT ?_
             clear HT
             refine ⟨(_, _), ?_, ⟨gLen rfl (by first | rfl | simp | (simp; omega)), rfl, rfl, rfl, rfl, trivial⟩, _, (by repeat constructor)⟩
             trivial
          ·skip
           refine stA (hx := [.know 1 (powO G.tp G.zp)]) (wantN rfl) (fun t ht => by cases ht <;> decide) (.cons (by repeat constructor) .nil) (by repeat constructor) ?_
           refine cai rfl rfl rfl (conf_nums_s (l := [x.ca, x.cb]) G (by simp) (fun z hz => by simp only [List.mem_cons, List.not_mem_nil, or_false] at hz; rcases hz with rfl | rfl <;> omega)) ?_
           refine undel (d := 46) rfl ?_
           try dsimp only [List.cons_append, List.nil_append]
           refine e1 HT 10 rfl ?_
           refine qLit (l := [_]) rfl rfl (by decide) us_39 ty_9 ze_9 rfl (by decide) (by decide) rfl rfl rfl (fun b40 => ?_)
           refine eWeak (weak_settle (k := 40) rfl (by repeat constructor) (by first | (simp; done) | rfl)) (fun b hb => by simp [owns, HA.own] at hb ⊢; first | (rcases hb with h | h | h | h <;> simp [h]; done) | (rcases hb with h | h | h <;> simp [h]; done) | (rcases hb with h | h <;> simp [h]; done) | (simp [hb]; done)) ?_
           refine e1 HT 17 rfl ?_
           refine qLit (l := [_, _, _, _]) rfl rfl (by decide) us_60 ty_39 ze_39 rfl (by decide) (by decide) rfl rfl rfl (fun b47 => ?_)
           refine eWeak (weak_settle (k := 47) rfl (by repeat constructor) (by first | (simp; done) | rfl)) (fun b hb => by simp [owns, HA.own] at hb ⊢; first | (rcases hb with h | h | h | h <;> simp [h]; done) | (rcases hb with h | h | h <;> simp [h]; done) | (rcases hb with h | h <;> simp [h]; done) | (simp [hb]; done)) ?_
           refine eOneS (i := 18) #[true, true, true, true, true, true, true, true, true, true, true, true, true, true, true, true, true, true, true, false] rfl (HT.one (by kernel_rfl)) (by decide) ?_
           ·skip
            refine stA (hx := []) (wantN rfl) (fun t ht => by cases ht <;> decide) .nil (by repeat constructor) ?_
            first | refine coM rfl rfl rfl (concat_S (l := [[[119, 105, 114, 101]], [itoa x.a, itoa x.b], [howS x.u], [itoa x.ca, itoa x.cb]]) (by simp) (by simp)) (fun g48 k48 => ?_) | refine co rfl rfl rfl (concat_S (l := [[[119, 105, 114, 101]], [itoa x.a, itoa x.b], [howS x.u], [itoa x.ca, itoa x.cb]]) (by simp) (by simp)) (fun g48 k48 => ?_)
            refine undel (d := 48) rfl ?_
            try dsimp only [List.cons_append, List.nil_append]
            refine ef HT 19 rfl pMa ?_
            refine eE HT ?_
            clear HT
            refine ⟨(_, _), ?_, ⟨gLen rfl (by first | rfl | simp | (simp; omega)), rfl, rfl, rfl, rfl, trivial⟩, _, (by repeat constructor)⟩
            trivial
         ·skip
          refine stQ (wantN rfl) (fun t ht => by cases ht <;> decide) ?_
          refine qLit (l := [_]) rfl rfl (by decide) us_39 ty_9 ze_9 rfl (by decide) (by decide) rfl rfl rfl (fun b40 => ?_)
          refine undel (d := 40) rfl ?_
          refine eWeak (weak_settle (k := 40) rfl (by repeat constructor) (by first | (simp; done) | rfl)) (fun b hb => by simp [owns, HA.own] at hb ⊢; first | (rcases hb with h | h | h | h <;> simp [h]; done) | (rcases hb with h | h | h <;> simp [h]; done) | (rcases hb with h | h <;> simp [h]; done) | (simp [hb]; done)) ?_
          refine eTwoS (i := 0) (j := 16) #[true, true, true, true, true, true, true, true, true, true, true, true, true, true, true, true, false, false, false, false] #[false, true, true, true, true, true, true, true, true, true, true, true, true, true, true, true, true, false, false, false] rfl rfl (HT.two (by kernel_rfl)) (by decide) (by decide) ?_ ?_
          ·skip
           refine stQ (wantN rfl) (fun t ht => by cases ht <;> decide) ?_
           refine qLit (l := [_]) rfl rfl (by decide) us_39 ty_9 ze_9 rfl (by decide) (by decide) rfl rfl rfl (fun b30 => ?_)
           refine undel (d := 30) rfl ?_
           refine eWeak (weak_settle (k := 30) rfl (by repeat constructor) (by first | (simp; done) | rfl)) (fun b hb => by simp [owns, HA.own] at hb ⊢; first | (rcases hb with h | h | h | h <;> simp [h]; done) | (rcases hb with h | h | h <;> simp [h]; done) | (rcases hb with h | h <;> simp [h]; done) | (simp [hb]; done)) ?_
           refine eOneS (i := 16) #[true, true, true, true, true, true, true, true, true, true, true, true, true, true, true, true, true, false, false, false] rfl (HT.one (by kernel_rfl)) (by decide) ?_
           ·skip
            refine stA (hx := [.know 1 (powO G.tp G.zp)]) (wantN rfl) (fun t ht => by cases ht <;> decide) (.cons (by repeat constructor) .nil) (by repeat constructor) ?_
            refine cai rfl rfl rfl (conf_nums_s (l := [x.ca, x.cb]) G (by simp) (fun z hz => by simp only [List.mem_cons, List.not_mem_nil, or_false] at hz; rcases hz with rfl | rfl <;> omega)) ?_
            refine undel (d := 46) rfl ?_
            try dsimp only [List.cons_append, List.nil_append]
            refine e1 HT 17 rfl ?_
            refine qLit (l := [_, _, _, _]) rfl rfl (by decide) us_60 ty_39 ze_39 rfl (by decide) (by decide) rfl rfl rfl (fun b47 => ?_)
            refine eWeak (weak_settle (k := 47) rfl (by repeat constructor) (by first | (simp; done) | rfl)) (fun b hb => by simp [owns, HA.own] at hb ⊢; first | (rcases hb with h | h | h | h <;> simp [h]; done) | (rcases hb with h | h | h <;> simp [h]; done) | (rcases hb with h | h <;> simp [h]; done) | (simp [hb]; done)) ?_
            refine eOneS (i := 18) #[true, true, true, true, true, true, true, true, true, true, true, true, true, true, true, true, true, true, true, false] rfl (HT.one (by kernel_rfl)) (by decide) ?_
            ·skip
             refine stA (hx := []) (wantN rfl) (fun t ht => by cases ht <;> decide) .nil (by repeat constructor) ?_
             first | refine coM rfl rfl rfl (concat_S (l := [[[119, 105, 114, 101]], [itoa x.a, itoa x.b], [howS x.u], [itoa x.ca, itoa x.cb]]) (by simp) (by simp)) (fun g48 k48 => ?_) | refine co rfl rfl rfl (concat_S (l := [[[119, 105, 114, 101]], [itoa x.a, itoa x.b], [howS x.u], [itoa x.ca, itoa x.cb]]) (by simp) (by simp)) (fun g48 k48 => ?_)
             refine undel (d := 48) rfl ?_
             try dsimp only [List.cons_append, List.nil_append]
             refine ef HT 19 rfl pMa ?_
             refine eE HT ?_
             clear HT
             refine ⟨(_, _), ?_, ⟨gLen rfl (by first | rfl | simp | (simp; omega)), rfl, rfl, rfl, rfl, trivial⟩, _, (by repeat constructor)⟩
             trivial
          ·skip
           refine stA (hx := [.know 1 (powO G.tp G.zp)]) (wantN rfl) (fun t ht => by cases ht <;> decide) (.cons (by repeat constructor) .nil) (by repeat constructor) ?_
           refine cai rfl rfl rfl (conf_nums_s (l := [x.ca, x.cb]) G (by simp) (fun z hz => by simp only [List.mem_cons, List.not_mem_nil, or_false] at hz; rcases hz with rfl | rfl <;> omega)) ?_
           refine undel (d := 46) rfl ?_
           try dsimp only [List.cons_append, List.nil_append]
           refine e1 HT 0 rfl ?_
           refine qLit (l := [_]) rfl rfl (by decide) us_39 ty_9 ze_9 rfl (by decide) (by decide) rfl rfl rfl (fun b30 => ?_)
           refine eWeak (weak_settle (k := 30) rfl (by repeat constructor) (by first | (simp; done) | rfl)) (fun b hb => by simp [owns, HA.own] at hb ⊢; first | (rcases hb with h | h | h | h <;> simp [h]; done) | (rcases hb with h | h | h <;> simp [h]; done) | (rcases hb with h | h <;> simp [h]; done) | (simp [hb]; done)) ?_
           refine e1 HT 17 rfl ?_
           refine qLit (l := [_, _, _, _]) rfl rfl (by decide) us_60 ty_39 ze_39 rfl (by decide) (by decide) rfl rfl rfl (fun b47 => ?_)
           refine eWeak (weak_settle (k := 47) rfl (by repeat constructor) (by first | (simp; done) | rfl)) (fun b hb => by simp [owns, HA.own] at hb ⊢; first | (rcases hb with h | h | h | h <;> simp [h]; done) | (rcases hb with h | h | h <;> simp [h]; done) | (rcases hb with h | h <;> simp [h]; done) | (simp [hb]; done)) ?_
           refine eOneS (i := 18) #[true, true, true, true, true, true, true, true, true, true, true, true, true, true, true, true, true, true, true, false] rfl (HT.one (by kernel_rfl)) (by decide) ?_
           ·skip
            refine stA (hx := []) (wantN rfl) (fun t ht => by cases ht <;> decide) .nil (by repeat constructor) ?_
            first | refine coM rfl rfl rfl (concat_S (l := [[[119, 105, 114, 101]], [itoa x.a, itoa x.b], [howS x.u], [itoa x.ca, itoa x.cb]]) (by simp) (by simp)) (fun g48 k48 => ?_) | refine co rfl rfl rfl (concat_S (l := [[[119, 105, 114, 101]], [itoa x.a, itoa x.b], [howS x.u], [itoa x.ca, itoa x.cb]]) (by simp) (by simp)) (fun g48 k48 => ?_)
            refine undel (d := 48) rfl ?_
            try dsimp only [List.cons_append, List.nil_append]
            refine ef HT 19 rfl pMa ?_
            refine eE HT ?_
            clear HT
            refine ⟨(_, _), ?_, ⟨gLen rfl (by first | rfl | simp | (simp; omega)), rfl, rfl, rfl, rfl, trivial⟩, _, (by repeat constructor)⟩
            trivial
         ·skip
          refine stA (hx := [.know 1 (powO G.tp G.zp)]) (wantN rfl) (fun t ht => by cases ht <;> decide) (.cons (by repeat constructor) .nil) (by repeat constructor) ?_
          refine cai rfl rfl rfl (conf_nums_s (l := [x.ca, x.cb]) G (by simp) (fun z hz => by simp only [List.mem_cons, List.not_mem_nil, or_false] at hz; rcases hz with rfl | rfl <;> omega)) ?_
          refine undel (d := 46) rfl ?_
          try dsimp only [List.cons_append, List.nil_append]
          refine eTwoS (i := 0) (j := 10) #[true, true, true, true, true, true, true, true, true, true, false, true, true, true, true, true, true, false, false, false] #[false, true, true, true, true, true, true, true, true, true, true, true, true, true, true, true, true, false, false, false] rfl rfl (HT.two (by kernel_rfl)) (by decide) (by decide) ?_ ?_
          ·skip
           refine stQ (wantN rfl) (fun t ht => by cases ht <;> decide) ?_
           refine qLit (l := [_]) rfl rfl (by decide) us_39 ty_9 ze_9 rfl (by decide) (by decide) rfl rfl rfl (fun b30 => ?_)
           refine undel (d := 30) rfl ?_
           refine eWeak (weak_settle (k := 30) rfl (by repeat constructor) (by first | (simp; done) | rfl)) (fun b hb => by simp [owns, HA.own] at hb ⊢; first | (rcases hb with h | h | h | h <;> simp [h]; done) | (rcases hb with h | h | h <;> simp [h]; done) | (rcases hb with h | h <;> simp [h]; done) | (simp [hb]; done)) ?_
           refine e1 HT 10 rfl ?_
           refine qLit (l := [_]) rfl rfl (by decide) us_39 ty_9 ze_9 rfl (by decide) (by decide) rfl rfl rfl (fun b40 => ?_)
           refine eWeak (weak_settle (k := 40) rfl (by repeat constructor) (by first | (simp; done) | rfl)) (fun b hb => by simp [owns, HA.own] at hb ⊢; first | (rcases hb with h | h | h | h <;> simp [h]; done) | (rcases hb with h | h | h <;> simp [h]; done) | (rcases hb with h | h <;> simp [h]; done) | (simp [hb]; done)) ?_
           refine e1 HT 17 rfl ?_
           refine qLit (l := [_, _, _, _]) rfl rfl (by decide) us_60 ty_39 ze_39 rfl (by decide) (by decide) rfl rfl rfl (fun b47 => ?_)
           refine eWeak (weak_settle (k := 47) rfl (by repeat constructor) (by first | (simp; done) | rfl)) (fun b hb => by simp [owns, HA.own] at hb ⊢; first | (rcases hb with h | h | h | h <;> simp [h]; done) | (rcases hb with h | h | h <;> simp [h]; done) | (rcases hb with h | h <;> simp [h]; done) | (simp [hb]; done)) ?_
           refine eOneS (i := 18) #[true, true, true, true, true, true, true, true, true, true, true, true, true, true, true, true, true, true, true, false] rfl (HT.one (by kernel_rfl)) (by decide) ?_
           ·skip
            refine stA (hx := []) (wantN rfl) (fun t ht => by cases ht <;> decide) .nil (by repeat constructor) ?_
            first | refine coM rfl rfl rfl (concat_S (l := [[[119, 105, 114, 101]], [itoa x.a, itoa x.b], [howS x.u], [itoa x.ca, itoa x.cb]]) (by simp) (by simp)) (fun g48 k48 => ?_) | refine co rfl rfl rfl (concat_S (l := [[[119, 105, 114, 101]], [itoa x.a, itoa x.b], [howS x.u], [itoa x.ca, itoa x.cb]]) (by simp) (by simp)) (fun g48 k48 => ?_)
            refine undel (d := 48) rfl ?_
            try dsimp only [List.cons_append, List.nil_append]
            refine ef HT 19 rfl pMa ?_
            refine eE HT ?_
            clear HT
            refine ⟨(_, _), ?_, ⟨gLen rfl (by first | rfl | simp | (simp; omega)), rfl, rfl, rfl, rfl, trivial⟩, _, (by repeat constructor)⟩
            trivial
          ·skip
           refine stQ (wantN rfl) (fun t ht => by cases ht <;> decide) ?_
           refine qLit (l := [_]) rfl rfl (by decide) us_39 ty_9 ze_9 rfl (by decide) (by decide) rfl rfl rfl (fun b40 => ?_)
           refine undel (d := 40) rfl ?_
           refine eWeak (weak_settle (k := 40) rfl (by repeat constructor) (by first | (simp; done) | rfl)) (fun b hb => by simp [owns, HA.own] at hb ⊢; first | (rcases hb with h | h | h | h <;> simp [h]; done) | (rcases hb with h | h | h <;> simp [h]; done) | (rcases hb with h | h <;> simp [h]; done) | (simp [hb]; done)) ?_
           refine e1 HT 0 rfl ?_
           refine qLit (l := [_]) rfl rfl (by decide) us_39 ty_9 ze_9 rfl (by decide) (by decide) rfl rfl rfl (fun b30 => ?_)
           refine eWeak (weak_settle (k := 30) rfl (by repeat constructor) (by first | (simp; done) | rfl)) (fun b hb => by simp [owns, HA.own] at hb ⊢; first | (rcases hb with h | h | h | h <;> simp [h]; done) | (rcases hb with h | h | h <;> simp [h]; done) | (rcases hb with h | h <;> simp [h]; done) | (simp [hb]; done)) ?_
           refine e1 HT 17 rfl ?_
           refine qLit (l := [_, _, _, _]) rfl rfl (by decide) us_60 ty_39 ze_39 rfl (by decide) (by decide) rfl rfl rfl (fun b47 => ?_)
           refine eWeak (weak_settle (k := 47) rfl (by repeat constructor) (by first | (simp; done) | rfl)) (fun b hb => by simp [owns, HA.own] at hb ⊢; first | (rcases hb with h | h | h | h <;> simp [h]; done) | (rcases hb with h | h | h <;> simp [h]; done) | (rcases hb with h | h <;> simp [h]; done) | (simp [hb]; done)) ?_
           refine eOneS (i := 18) #[true, true, true, true, true, true, true, true, true, true, true, true, true, true, true, true, true, true, true, false] rfl (HT.one (by kernel_rfl)) (by decide) ?_
           ·skip
            refine stA (hx := []) (wantN rfl) (fun t ht => by cases ht <;> decide) .nil (by repeat constructor) ?_
            first | refine coM rfl rfl rfl (concat_S (l := [[[119, 105, 114, 101]], [itoa x.a, itoa x.b], [howS x.u], [itoa x.ca, itoa x.cb]]) (by simp) (by simp)) (fun g48 k48 => ?_) | refine co rfl rfl rfl (concat_S (l := [[[119, 105, 114, 101]], [itoa x.a, itoa x.b], [howS x.u], [itoa x.ca, itoa x.cb]]) (by simp) (by simp)) (fun g48 k48 => ?_)
            refine undel (d := 48) rfl ?_
            try dsimp only [List.cons_append, List.nil_append]
            refine ef HT 19 rfl pMa ?_
            refine eE HT ?_
            clear HT
            refine ⟨(_, _), ?_, ⟨gLen rfl (by first | rfl | simp | (simp; omega)), rfl, rfl, rfl, rfl, trivial⟩, _, (by repeat constructor)⟩
            trivial
    ·rintro ⟨g2, c2⟩ _
     have hol : out.length ≤ 100002 := by rw [ho]; unfold linesP; simp; omega
     refine aWeak (weak_settle (k := 11) rfl (by repeat constructor) (by first | rfl | (simp; done) | (simp; omega) | (simp_all; done))) ?_
     refine aReg ?_
     refine sp pM ?_
     refine sp pM ?_
     refine sq ?_
     refine ci rfl rfl rfl (str_Join (xs := wordsW x) (sep := spS) (by show 6 ≤ 140737488355328; decide) (by have := line_len hxw; unfold lineW at this; omega)) ?_
     refine sq ?_
     refine qLit (l := [_]) rfl rfl (by decide) us_39 ty_9 ze_9 rfl (by decide) (by decide) rfl rfl rfl (fun b52 => ?_)
     refine sa ?_
     refine oAppT ([lineW x] : List SBs) rfl rfl (by repeat constructor) (srcOwn rfl (by repeat constructor) rfl) el_39 sl_39 (fun g53 k53 => ?_)
     refine sp pMa ?_
     refine oNil ?_
     refine aReg ?_
     refine sp pAd ?_
     refine sp pM ?_
     refine oNil ?_
     refine ⟨(i + 1, _, _, _), ?_, by (try dsimp only); omega, ⟨gInt rfl (by first | rfl | omega | simp), gLen rfl (by first | rfl | simp | (simp; omega)), rfl, rfl, trivial⟩, _, (by repeat constructor)⟩
     exact ⟨by omega, by rw [take_step hx, ho]; simp [linesP]⟩
   ·skip
    refine aExit rfl ?_
    refine aSeq ?_
    have ho2 : out = linesP n s l := by rw [ho, take_all (by omega)]
    subst ho2
    refine aWeak (weak_settle (k := 8) rfl (by repeat constructor) (by first | rfl | (simp; done) | (simp; omega) | (simp_all; done))) ?_
    refine aReg ?_
    refine sp pM ?_
    refine sq ?_
    refine ci rfl rfl rfl (str_Join (xs := linesP n s l) (sep := nlS) (by unfold linesP; simp; omega) (by omega)) ?_
    refine sp pCat ?_
    refine sp pMa ?_
    refine sp pMa ?_
    refine oNil ?_
    refine aRet ?_
    refine finIs rfl ?_
    rw [show textE n s l = textP n s l by unfold textE; rw [hm]; rfl, hm]
    rfl
end A
end Go.Proofs.YtgdfppjapnpcgaaDoor
namespace Go.Proofs.YtgdfppjapnpcgaaDoor
namespace A
theorem st_38 : structPlaces Tryd.prog 38 = some [(0, 1), (1, 1), (2, 1), (3, 1), (4, 1)] := by kernel_rfl
open Go.Lib (itoa join)
theorem cast_tup2 {a b : Value} : Cast (.v (.tuple #[a, b])) (.tup [.v a, .v b]) := fun F w x h => by
 cases h
 refine .tup _ _ rfl (fun j av x hj hx => ?_)
 match j with
 | 0 => simp at hj hx; subst hj; subst hx; exact .v _
 | 1 => simp at hj hx; subst hj; subst hx; exact .v _
 | j + 2 => simp at hj
def wi0 : Wi := ⟨0, 0, false, 0, 0⟩
theorem wireA_six {line a b u c d x : SBs} (h : splitS line spS = [x, a, b, u, c, d]) : wireA line = some ⟨numA a, numA b, decide (u = [117, 112]), numA c, numA d⟩ := by unfold wireA; rw [h]
theorem wireA_no {line : SBs} (h : (splitS line spS).length ≠ 6) : wireA line = none := by
 unfold wireA
 split
 ·rename_i h1; rw [h1] at h; exact absurd rfl h
 ·rfl
theorem split_six {l : List SBs} (h : l.length = 6) : ∃ x a b u c d, l = [x, a, b, u, c, d] := by
 match l, h with
 | [x, a, b, u, c, d], _ => exact ⟨x, a, b, u, c, d, rfl⟩
theorem split_part {s sep x : SBs} (h1 : 1 ≤ sep.length) (h : x ∈ splitS s sep) : x.length ≤ s.length := by
 unfold splitS at h
 obtain ⟨y, hy, rfl⟩ := List.mem_map.1 h
 have key : ∀ (k : Nat) (z : ByteArray) (y : ByteArray), y ∈ Go.Lib.splitB ⟨sep.toArray⟩ 0 k z → y.size ≤ z.size := by
   intro k
   induction k with
   | zero => intro z y hy; rw [Go.Lib.splitB_zero] at hy; rw [List.mem_singleton.1 hy]; exact Nat.le_refl _
   | succ k ih =>
     intro z y hy
     unfold Go.Lib.splitB at hy
     split at hy
     ·rw [List.mem_singleton.1 hy]; exact Nat.le_refl _
     ·rcases List.mem_cons.1 hy with rfl | hy
      ·simp only [ByteArray.size_extract]; omega
      ·have := ih _ _ hy
       simp only [ByteArray.size_extract] at this
       omega
 have := key _ _ _ hy
 rw [str_size] at this
 rw [Array.length_toList]
 exact this
/- config.number -/
set_option maxRecDepth 100000 in
set_option maxHeartbeats 400000 in
theorem conf_number {s : SBs} (G : Gl) (hs : s.length ≤ 281474976710656) : Triple Tryd.prog 29 [strA s] [.know 4 (.cells #[G.es] G.ts G.zs), .know 5 (.cells #[G.er] G.tr G.zr)] (Is (.int (numA s)) [.know 4 (.cells #[G.es] G.ts G.zs), .know 5 (.cells #[G.er] G.tr G.zr)]) := by
 refine triple_of Tryd.func29 rfl (by kernel_rfl) rfl (by simp) ?_
 refine aSeq ?_
 refine aReg ?_
 refine sp pMa ?_
 refine oNil ?_
 refine aSeq ?_
 refine aReg ?_
 refine sp pM ?_
 refine sa ?_
 refine ca rfl rfl rfl (str_Atoi (s := s) G hs) ?_
 rintro _ _ ⟨⟨v, rfl, k, ev, rfl, hA⟩, rfl⟩
 refine oWeak (weak_cast (k := 7) (b := .tup [.int k, .v ev]) rfl cast_tup2) ?_
 obtain ⟨q, hq⟩ : ∃ q : Bool, (ev = .nilIface ∧ q = false ∨ (∃ te pe, ev = .iface te pe) ∧ q = true) ∧ numA s = (if q then -1 else k) := by
   rcases hA with ⟨h1, h2⟩ | ⟨h1, h2⟩
   ·exact ⟨false, .inl ⟨h2, rfl⟩, by unfold numA; rw [h1]; rfl⟩
   ·refine ⟨true, .inr ⟨h2, rfl⟩, ?_⟩
    unfold numA
    cases hh : Go.Lib.atoiAll s with
    | ok m => exact absurd hh (h1 m)
    | range => rfl
    | _ => rfl
 refine sp pM ?_
 refine sp pX ?_
 refine sp pX ?_
 refine sp pMa ?_
 refine sp pMa ?_
 refine oNil ?_
 refine aSeq ?_
 refine aSeq ?_
 refine aReg ?_
 refine sp pM ?_
 refine sp (pIfNil Tryd.underlying69 hq.1) ?_
 refine oNil ?_
 refine aCond rfl (fun c11 => ?_) (fun c11 => ?_)
 ·skip
  refine aSeq ?_
  refine aReg ?_
  refine sp pMa ?_
  refine oNil ?_
  refine aRet ?_
  refine finIs rfl ?_
  rw [hq.2, show q = true by simp_all]
  rfl
 ·skip
  refine aSkip ?_
  refine aSeq ?_
  refine aReg ?_
  refine sp pM ?_
  refine sp pMa ?_
  refine oNil ?_
  refine aRet ?_
  refine finIs rfl ?_
  rw [hq.2, show q = false by simp_all]
  rfl
/- config.one -/
set_option maxRecDepth 100000 in
set_option maxHeartbeats 400000 in
theorem conf_one {line word : SBs} (G : Gl) (hs : line.length ≤ 100000) (hw : word.length ≤ 100) : Triple Tryd.prog 13 [strA line, strA word] [.know 4 (.cells #[G.es] G.ts G.zs), .know 5 (.cells #[G.er] G.tr G.zr)] (Is (.int (oneA line word)) [.know 4 (.cells #[G.es] G.ts G.zs), .know 5 (.cells #[G.er] G.tr G.zr)]) := by
 refine triple_of Tryd.func13 rfl (by kernel_rfl) rfl (by simp) ?_
 refine aSeq ?_
 refine aReg ?_
 refine sp pMa ?_
 refine oNil ?_
 refine aSeq ?_
 refine aReg ?_
 refine sp pM ?_
 refine sp pM ?_
 refine sp pCat ?_
 refine sq ?_
 refine ci rfl rfl rfl (str_CutP (s := line) (p := word ++ spS)) ?_
 refine sp pM ?_
 refine sp pX ?_
 refine sp pX ?_
 refine sp pMa ?_
 refine sp pMa ?_
 refine oNil ?_
 refine aSeq ?_
 refine aSeq ?_
 refine aReg ?_
 refine sp pM ?_
 refine sp pNo ?_
 refine oNil ?_
 refine aCondNot rfl (fun c15 => ?_) (fun c15 => ?_)
 ·skip
  refine aSeq ?_
  refine aReg ?_
  refine sp pMa ?_
  refine oNil ?_
  refine aRet ?_
  refine finIs rfl ?_
  have hO : oneA line word = -1 := by unfold oneA; rw [if_neg (by simp_all)]
  rw [hO]
  rfl
 ·skip
  refine aSkip ?_
  refine aSeq ?_
  refine aReg ?_
  refine sp pM ?_
  refine sa ?_
  refine cai rfl rfl rfl (conf_number (s := Go.Lib.trimPrefix line (word ++ spS)) G (by have : (Go.Lib.trimPrefix line (word ++ spS)).length ≤ line.length := (by unfold Go.Lib.trimPrefix; split <;> simp); omega)) ?_
  refine sp pMa ?_
  refine oNil ?_
  refine aRet ?_
  refine finIs rfl ?_
  have hO : oneA line word = numA (Go.Lib.trimPrefix line (word ++ spS)) := by unfold oneA; rw [if_pos (by simp_all)]
  rw [hO]
  rfl
/- config.wire -/
def conf_wire_r4_T : Bool × List (List Nat × List Nat) := (true, [([], []), ([0], [0]), ([1], [1]), ([2], [2]), ([], []), ([4], [4]), ([5], [5]), ([6, 3], [6]), ([], []), ([8], [8]), ([9], [9]), ([10], [10]), ([], []), ([12], [12]), ([13], [13]), ([14, 7], [14]), ([], []), ([16], [16]), ([17], [17]), ([18, 15], [18]), ([3, 7, 11, 15, 19], [3, 7, 11, 15, 19]), ([20, 19, 0, 1, 2, 3, 4, 5, 6, 7, 8, 9, 10, 11, 12, 13, 14, 15, 16, 17, 18, 19, 20], [20]), ([21, 0, 1, 2, 3, 4, 5, 6, 7, 8, 9, 10, 11, 12, 13, 14, 15, 16, 17, 18, 19, 20, 21], [])])
def conf_wire_r4_B : List Nat := [0, 1, 3, 7, 0, 16, 48, 127, 0, 256, 768, 1792, 0, 4096, 12288, 28927, 0, 65536, 196608, 520447, 1048575, 2097151, 4194303]
theorem conf_wire_r4_t : Go.Proofs.YtgdfppjapnpcgaaDoorW.PrintLast.rtab .any (Go.Proofs.YtgdfppjapnpcgaaDoorW.PrintLast.opsOf Tryd.f14 4) = conf_wire_r4_T := by kernel_rfl
theorem conf_wire_r4_b : Go.Proofs.YtgdfppjapnpcgaaDoorW.PrintLast.waitsOk conf_wire_r4_T.2 conf_wire_r4_B = true := by kernel_rfl
set_option maxRecDepth 100000 in
set_option maxHeartbeats 4000000 in
theorem conf_wire {line : SBs} (G : Gl) (hs : line.length ≤ 100000) : Triple Tryd.prog 14 [strA line] [.know 0 (.cells #[.int .i64 G.m] G.tm G.zm), .know 4 (.cells #[G.es] G.ts G.zs), .know 5 (.cells #[G.er] G.tr G.zr)] (Is (.tup [.agg (wirC ((wireA line).getD wi0)), .v (.bool (wireA line).isSome)]) [.know 0 (.cells #[.int .i64 G.m] G.tm G.zm), .know 4 (.cells #[G.es] G.ts G.zs), .know 5 (.cells #[G.er] G.tr G.zr)]) := by
 refine triple_ofR Tryd.func14 rfl (by kernel_rfl) rfl (by simp) ?_
 refine aSeq ?_
 refine aReg ?_
 refine sq ?_
 refine qAlloc rfl rfl (by decide) ze_38 rfl (fun b2 => ?_)
 refine sp pMa ?_
 refine oNil ?_
 refine aSeq ?_
 refine aReg ?_
 refine sp pM ?_
 refine sa ?_
 refine cai rfl rfl rfl (str_Split (s := line) (sep := spS) G (by omega) (by decide)) ?_
 refine sp pMa ?_
 refine oNil ?_
 refine aSeq ?_
 refine aSeq ?_
 refine aReg ?_
 refine sp pM ?_
 refine sp (by first | exact pLm sl_39 | exact pLs sl_39 | exact pLv sl_39) ?_
 refine sp pB ?_
 refine oNil ?_
 refine aCondNe rfl (fun c9 => ?_) (fun c9 => ?_)
 ·skip
  refine aSeq ?_
  refine aReg ?_
  refine sp (pBuild rfl st_38 ze_38 rfl rfl rfl rfl) ?_
  refine sa ?_
  refine oStW rfl rfl rfl rfl (by repeat constructor) ty_38 ?_
  refine sp pMa ?_
  refine oNil ?_
  have hW := wireA_no (line := line) (by omega)
  rw [hW]
  refine aRet ?_
  refine finRIs (l := [.agg (wirC wi0), .v (.bool false)]) (.cons (.cellA (cs := wirC wi0) rfl (by repeat (first | exact List.mem_cons_self | apply List.mem_cons_of_mem)) ty_38) (.cons (.tmp rfl) .nil)) rfl
 ·skip
  refine aSkip ?_
  refine aSeq ?_
  obtain ⟨x, a, b, u, c, d, h6⟩ := split_six (l := splitS line spS) (by omega)
  have hW := wireA_six h6
  have p1 := split_part (s := line) (sep := spS) (x := a) (by decide) (by rw [h6]; simp)
  have p2 := split_part (s := line) (sep := spS) (x := b) (by decide) (by rw [h6]; simp)
  have p3 := split_part (s := line) (sep := spS) (x := c) (by decide) (by rw [h6]; simp)
  have p4 := split_part (s := line) (sep := spS) (x := d) (by decide) (by rw [h6]; simp)
  rw [h6]
  refine aDrawS (h1 := [.box b2 _]) conf_wire_r4_t conf_wire_r4_b [21] 23 #[false, false, false, false, false, false, false, false, false, false, false, false, false, false, false, false, false, false, false, false, false, false, false] (by kernel_rfl) rfl rfl (.cons (by repeat constructor) .nil) (fun HT => ?_)
  refine ep HT 0 rfl pM ?_
  refine ep HT 1 rfl (pIdxS rfl rfl rfl es_39 (by decide) (rfl : _ = some (strC a))) ?_
  refine er HT 2 rfl (by first | exact rS1 ty_9 | exact rB1 ty_9 | exact rAr ty_9 | exact rArL ty_9 | exact rArR2 ty_9) ?_
  refine ep HT 4 rfl pM ?_
  refine ep HT 5 rfl (pIdxS rfl rfl rfl es_39 (by decide) (rfl : _ = some (strC b))) ?_
  refine er HT 6 rfl (by first | exact rS1 ty_9 | exact rB1 ty_9 | exact rAr ty_9 | exact rArL ty_9 | exact rArR2 ty_9) ?_
  refine ep HT 8 rfl pM ?_
  refine ep HT 9 rfl (pIdxS rfl rfl rfl es_39 (by decide) (rfl : _ = some (strC u))) ?_
  refine er HT 10 rfl (by first | exact rS1 ty_9 | exact rB1 ty_9 | exact rAr ty_9 | exact rArL ty_9 | exact rArR2 ty_9) ?_
  refine ep HT 11 rfl pEqStr ?_
  refine ep HT 12 rfl pM ?_
  refine ep HT 13 rfl (pIdxS rfl rfl rfl es_39 (by decide) (rfl : _ = some (strC c))) ?_
  refine er HT 14 rfl (by first | exact rS1 ty_9 | exact rB1 ty_9 | exact rAr ty_9 | exact rArL ty_9 | exact rArR2 ty_9) ?_
  refine ep HT 16 rfl pM ?_
  refine ep HT 17 rfl (pIdxS rfl rfl rfl es_39 (by decide) (rfl : _ = some (strC d))) ?_
  refine er HT 18 rfl (by first | exact rS1 ty_9 | exact rB1 ty_9 | exact rAr ty_9 | exact rArL ty_9 | exact rArR2 ty_9) ?_
  refine eOneS (i := 3) #[true, true, true, true, true, true, true, false, true, true, true, true, true, true, true, false, true, true, true, false, false, false, false] rfl (HT.one (by kernel_rfl)) (by decide) ?_
  ·skip
   refine stA (hx := [.know 4 (.cells #[G.es] G.ts G.zs), .know 5 (.cells #[G.er] G.tr G.zr)]) (wantN rfl) (fun t ht => by cases ht <;> decide) (.cons (by repeat constructor) (.cons (by repeat constructor) .nil)) (by repeat constructor) ?_
   refine cai rfl rfl rfl (conf_number (s := a) G (by omega)) ?_
   refine undel (d := 14) rfl ?_
   try dsimp only [List.cons_append, List.nil_append]
   refine eOneS (i := 7) #[true, true, true, true, true, true, true, true, true, true, true, true, true, true, true, false, true, true, true, false, false, false, false] rfl (HT.one (by kernel_rfl)) (by decide) ?_
   ·skip
    refine stA (hx := [.know 4 (.cells #[G.es] G.ts G.zs), .know 5 (.cells #[G.er] G.tr G.zr)]) (wantN rfl) (fun t ht => by cases ht <;> decide) (.cons (by repeat constructor) (.cons (by repeat constructor) .nil)) (by repeat constructor) ?_
    refine cai rfl rfl rfl (conf_number (s := b) G (by omega)) ?_
    refine undel (d := 18) rfl ?_
    try dsimp only [List.cons_append, List.nil_append]
    refine eOneS (i := 15) #[true, true, true, true, true, true, true, true, true, true, true, true, true, true, true, true, true, true, true, false, false, false, false] rfl (HT.one (by kernel_rfl)) (by decide) ?_
    ·skip
     refine stA (hx := [.know 4 (.cells #[G.es] G.ts G.zs), .know 5 (.cells #[G.er] G.tr G.zr)]) (wantN rfl) (fun t ht => by cases ht <;> decide) (.cons (by repeat constructor) (.cons (by repeat constructor) .nil)) (by repeat constructor) ?_
     refine cai rfl rfl rfl (conf_number (s := c) G (by omega)) ?_
     refine undel (d := 26) rfl ?_
     try dsimp only [List.cons_append, List.nil_append]
     refine eOneS (i := 19) #[true, true, true, true, true, true, true, true, true, true, true, true, true, true, true, true, true, true, true, true, false, false, false] rfl (HT.one (by kernel_rfl)) (by decide) ?_
     ·skip
      refine stA (hx := [.know 4 (.cells #[G.es] G.ts G.zs), .know 5 (.cells #[G.er] G.tr G.zr)]) (wantN rfl) (fun t ht => by cases ht <;> decide) (.cons (by repeat constructor) (.cons (by repeat constructor) .nil)) (by repeat constructor) ?_
      refine cai rfl rfl rfl (conf_number (s := d) G (by omega)) ?_
      refine undel (d := 30) rfl ?_
      try dsimp only [List.cons_append, List.nil_append]
      refine ef HT 20 rfl (pBuild rfl st_38 ze_38 rfl rfl rfl rfl) ?_
      refine eLast ?_
      refine f1 HT 21 rfl ?_
      refine oStW rfl rfl rfl rfl (by repeat constructor) ty_38 ?_
      refine fp HT 22 rfl pMa ?_
      refine fE HT ?_
      clear HT
      rw [hW]
      refine aRet ?_
      refine finRIs (l := [.agg (wirC ⟨numA a, numA b, decide (u = [117, 112]), numA c, numA d⟩), .v (.bool true)]) (.cons (.cellA (cs := wirC ⟨numA a, numA b, decide (u = [117, 112]), numA c, numA d⟩) rfl (by repeat (first | exact List.mem_cons_self | apply List.mem_cons_of_mem)) ty_38) (.cons (.tmp rfl) .nil)) rfl
end A
end Go.Proofs.YtgdfppjapnpcgaaDoor
namespace Go.Proofs.YtgdfppjapnpcgaaDoor
namespace A
theorem el_22 : elemOf Tryd.prog 22 = some (38, 5, 40) := by kernel_rfl
theorem us_22 : Tryd.prog.underlying 22 = some (.slice 38) := by kernel_rfl
open Go.Lib (itoa join)
def parT (s : SBs) : AV := match parseA s with
 | none => .tup [.int 0, .int 0, .sl 5 [], .int 2]
 | some p => .tup [.int p.1, .int p.2.1, .sl 5 (p.2.2.map wirC), .int 0]
theorem parseA_of {s x y : SBs} {t : List SBs} (h : splitS (Go.Lib.trimSuffix s nlS) nlS = x :: y :: t) : parseA s = match wiresA t with
   | none => none
   | some l => if mayP (oneA x [110, 111, 100, 101, 115]) (oneA y [115, 101, 99, 116, 111, 114, 115]) l = true ∧ textP (oneA x [110, 111, 100, 101, 115]) (oneA y [115, 101, 99, 116, 111, 114, 115]) l = s then some (oneA x [110, 111, 100, 101, 115], oneA y [115, 101, 99, 116, 111, 114, 115], l) else none := by
 unfold parseA
 rw [h]
 rfl
theorem parseA_short {s : SBs} (h : (splitS (Go.Lib.trimSuffix s nlS) nlS).length < 2) : parseA s = none := by
 unfold parseA
 split
 ·rename_i h1; rw [h1] at h; simp at h; omega
 ·rfl
theorem wiresA_step {t : List SBs} {i : Nat} {x : SBs} (h : t[i]? = some x) : wiresA (t.drop i) = match wireA x with | none => none | some w => (wiresA (t.drop (i + 1))).map (w :: ·) := by
 rw [drop_step h]
 rfl
theorem two_of {l : List SBs} (h : ¬ l.length < 2) : ∃ x y t, l = x :: y :: t := by
 match l, h with
 | [], h => simp at h
 | [_], h => simp at h
 | x :: y :: t, _ => exact ⟨x, y, t, rfl⟩
theorem split_count {s sep : SBs} (h1 : 1 ≤ sep.length) : (splitS s sep).length ≤ s.length + 1 := by
 unfold splitS
 rw [List.length_map, Go.Lib.splitB_all _ (by rw [str_size]; exact h1) 0 _ _ rfl]
 have := Go.Lib.countB_le ⟨sep.toArray⟩ (by rw [str_size]; exact h1) _ ⟨s.toArray⟩ (Nat.le_refl _)
 rw [str_size] at this
 omega
theorem trim_len {s p : SBs} : (Go.Lib.trimSuffix s p).length ≤ s.length := by
 unfold Go.Lib.trimSuffix
 split
 ·rw [List.length_take]; omega
 ·exact Nat.le_refl _
/- config.Parse -/
def conf_Parse_r4_T : Bool × List (List Nat × List Nat) := (true, [([], []), ([0], [0]), ([1], [1]), ([2], [2]), ([], []), ([4], [4]), ([5], [5]), ([6, 3], [6]), ([3, 7, 0, 1, 2, 3], [3]), ([7, 8, 0, 1, 2, 3, 4, 5, 6, 7, 8], [7])])
def conf_Parse_r4_B : List Nat := [0, 1, 3, 7, 0, 16, 48, 127, 255, 511]
theorem conf_Parse_r4_t : Go.Proofs.YtgdfppjapnpcgaaDoorW.PrintLast.rtab .any (Go.Proofs.YtgdfppjapnpcgaaDoorW.PrintLast.opsOf Tryd.f5 4) = conf_Parse_r4_T := by kernel_rfl
theorem conf_Parse_r4_b : Go.Proofs.YtgdfppjapnpcgaaDoorW.PrintLast.waitsOk conf_Parse_r4_T.2 conf_Parse_r4_B = true := by kernel_rfl
set_option maxRecDepth 100000 in
set_option maxHeartbeats 4000000 in
theorem conf_Parse {s : SBs} (G : Gl) (hs : s.length ≤ 90000) : Triple Tryd.prog 5 [strA s] [.know 0 (.cells #[.int .i64 G.m] G.tm G.zm), .know 1 (powO G.tp G.zp), .know 4 (.cells #[G.es] G.ts G.zs), .know 5 (.cells #[G.er] G.tr G.zr)] (Is (parT s) [.know 0 (.cells #[.int .i64 G.m] G.tm G.zm), .know 1 (powO G.tp G.zp), .know 4 (.cells #[G.es] G.ts G.zs), .know 5 (.cells #[G.er] G.tr G.zr)]) := by
 have hTl := trim_len (s := s) (p := nlS)
 have hC := split_count (s := Go.Lib.trimSuffix s nlS) (sep := nlS) (by decide)
 refine triple_of Tryd.func5 rfl (by kernel_rfl) rfl (by simp) ?_
 refine aSeq ?_
 refine aReg ?_
 refine sp pMa ?_
 refine sp pMa ?_
 refine sp pMa ?_
 refine sp pMa ?_
 refine oNil ?_
 refine aSeq ?_
 refine aReg ?_
 refine sp pM ?_
 refine sq ?_
 refine ci rfl rfl rfl (str_Trim (s := s) (p := nlS) (by omega)) ?_
 refine sa ?_
 refine cai rfl rfl rfl (str_Split (s := Go.Lib.trimSuffix s nlS) (sep := nlS) G (by omega) (by decide)) ?_
 refine sp pMa ?_
 refine oNil ?_
 refine aSeq ?_
 refine aSeq ?_
 refine aReg ?_
 refine sp pM ?_
 refine sp (by first | exact pLm sl_39 | exact pLs sl_39 | exact pLv sl_39) ?_
 refine sp pB ?_
 refine oNil ?_
 refine aCondDec rfl (fun c18 => ?_) (fun c18 => ?_)
 ·skip
  refine aSeq ?_
  refine aReg ?_
  refine sp pMa ?_
  refine sp pMa ?_
  refine sp pMa ?_
  refine sp pMa ?_
  refine oNil ?_
  have hP : parseA s = none := by
    exact parseA_short (by omega)
  have hT : parT s = .tup [.int 0, .int 0, .sl 5 [], .int 2] := by unfold parT; rw [hP]
  rw [hT]
  refine aWeak (weak_cast (k := 4) (b := .sl 5 []) rfl cast_nil) ?_
  refine aRet ?_
  exact finIs rfl rfl
 ·skip
  refine aSkip ?_
  refine aSeq ?_
  obtain ⟨x, y, t, hL⟩ := two_of (l := splitS (Go.Lib.trimSuffix s nlS) nlS) (by omega)
  have hPA := parseA_of hL
  have p1 := split_part (s := Go.Lib.trimSuffix s nlS) (sep := nlS) (x := x) (by decide) (by rw [hL]; simp)
  have p2 := split_part (s := Go.Lib.trimSuffix s nlS) (sep := nlS) (x := y) (by decide) (by rw [hL]; simp)
  have p3 : ∀ z ∈ t, z.length ≤ 90000 := fun z hz => by
    have := split_part (s := Go.Lib.trimSuffix s nlS) (sep := nlS) (x := z) (by decide) (by rw [hL]; simp [hz])
    omega
  have htl : t.length ≤ 90001 := by rw [hL] at hC; simp only [List.length_cons] at hC; omega
  rw [hL]
  refine aDrawS (h1 := []) conf_Parse_r4_t conf_Parse_r4_b [] 10 #[false, false, false, false, false, false, false, false, false, false] (by kernel_rfl) rfl rfl .nil (fun HT => ?_)
  refine ep HT 0 rfl pM ?_
  refine ep HT 1 rfl (pIdxS rfl rfl rfl es_39 (by decide) (rfl : _ = some (strC x))) ?_
  refine er HT 2 rfl (by first | exact rS1 ty_9 | exact rB1 ty_9 | exact rAr ty_9 | exact rArL ty_9 | exact rArR2 ty_9) ?_
  refine ep HT 4 rfl pM ?_
  refine ep HT 5 rfl (pIdxS rfl rfl rfl es_39 (by decide) (rfl : _ = some (strC y))) ?_
  refine er HT 6 rfl (by first | exact rS1 ty_9 | exact rB1 ty_9 | exact rAr ty_9 | exact rArL ty_9 | exact rArR2 ty_9) ?_
  refine eOneS (i := 3) #[true, true, true, true, true, true, true, false, false, false] rfl (HT.one (by kernel_rfl)) (by decide) ?_
  ·skip
   refine stA (hx := [.know 4 (.cells #[G.es] G.ts G.zs), .know 5 (.cells #[G.er] G.tr G.zr)]) (wantN rfl) (fun t ht => by cases ht <;> decide) (.cons (by repeat constructor) (.cons (by repeat constructor) .nil)) (by repeat constructor) ?_
   refine cai rfl rfl rfl (conf_one (line := x) (word := [110, 111, 100, 101, 115]) G (by omega) (by decide)) ?_
   refine undel (d := 22) rfl ?_
   try dsimp only [List.cons_append, List.nil_append]
   refine eOneS (i := 7) #[true, true, true, true, true, true, true, true, false, false] rfl (HT.one (by kernel_rfl)) (by decide) ?_
   ·skip
    refine stA (hx := [.know 4 (.cells #[G.es] G.ts G.zs), .know 5 (.cells #[G.er] G.tr G.zr)]) (wantN rfl) (fun t ht => by cases ht <;> decide) (.cons (by repeat constructor) (.cons (by repeat constructor) .nil)) (by repeat constructor) ?_
    refine cai rfl rfl rfl (conf_one (line := y) (word := [115, 101, 99, 116, 111, 114, 115]) G (by omega) (by decide)) ?_
    refine undel (d := 26) rfl ?_
    try dsimp only [List.cons_append, List.nil_append]
    refine ePure (i := 8) #[true, true, true, true, true, true, true, true, true, false] rfl rfl rfl (HT.any (by kernel_rfl)) (by exact pMa) (by decide) ?_
    refine ePure (i := 9) #[true, true, true, true, true, true, true, true, true, true] rfl rfl rfl (HT.any (by kernel_rfl)) (by exact pMa) (by decide) ?_
    refine eE HT ?_
    clear HT
    refine aSeq ?_
    refine aSeq ?_
    have hxy : (x :: y :: t).length = t.length + 2 := rfl
    refine aWeak (h' := .sl none 0 38 5 (([] : List Wi).map wirC) :: _) (weak_nil 38 5) ?_
    refine aReg ?_
    refine sp pM ?_
    refine sp (pSlice rfl rfl es_39 (bdI rfl) (bdN rfl) (by first | omega | (simp only [List.length_map]; omega)) (by first | omega | (simp only [List.length_map]; omega))) ?_
    refine oWeak (weak_av (k := 28) (a' := .sl 1 (t.map strC)) rfl (by show AV.sl 1 _ = AV.sl 1 _; rw [List.map_cons, List.map_cons, List.drop_succ_cons, List.drop_succ_cons, List.drop_zero, List.take_of_length_le (by simp)])) ?_
    refine sp (by first | exact pLm sl_39 | exact pLs sl_39 | exact pLv sl_39) ?_
    refine sp pM ?_
    refine oNil ?_
    refine aBlock ?_
    refine loopF (α := Nat × List Wi × Option Nat × Nat) (kept := [(0, _), (28, _), (29, _)]) (fun (i, out, g, c) => i ≤ t.length ∧ out.length = i ∧ wiresA t = (wiresA (t.drop i)).map (out ++ ·)) (fun (i, out, g, c) => [(2, .int (oneA x [110, 111, 100, 101, 115])), (3, .int (oneA y [115, 101, 99, 116, 111, 114, 115])), (30, .int i), (4, .v (slV g out.length c))]) (fun (i, out, g, c) => [.sl g c 38 5 (out.map wirC)]) (fun (i, out, g, c) => t.length - i) (0, [], _, _) ?_ ⟨gInt rfl (by first | rfl | omega | simp), gInt rfl (by first | rfl | omega | simp), gInt rfl (by first | rfl | omega | simp), gLen rfl (by first | rfl | simp | (simp; omega)), rfl, rfl, rfl, trivial⟩ (by repeat constructor) ?_
    ·skip
     exact ⟨by omega, rfl, by simp⟩
    ·rintro ⟨i, out, g, c⟩ ⟨hi, hol, hv⟩
     refine aSeq ?_
     refine aReg ?_
     refine sp pB ?_
     refine oNil ?_
     refine aSeq ?_
     refine aCondDec rfl (fun c31 => ?_) (fun c31 => ?_)
     ·skip
      refine aSkip ?_
      refine aSeq ?_
      refine aBlock ?_
      refine aSeq ?_
      obtain ⟨ln, hln⟩ : ∃ z, t[i]? = some z := ⟨_, List.getElem?_eq_getElem (by omega)⟩
      have hlnl := p3 ln (List.mem_of_getElem? hln)
      have hst := wiresA_step hln
      refine aReg ?_
      first | refine sp (pIx es_39) ?_ | (refine obtSN 28 30 rfl rfl (by omega) (fun x32 hx32 => ?_); refine sp (pIs es_39 hx32) ?_) | (refine obtS 28 30 rfl rfl (by omega) (by omega) (fun x32 hx32 => ?_); refine sp (pIs es_39 hx32) ?_) | refine sp (pIo es_39) ?_
      refine sr (by first | exact rS1 ty_9 | exact rB1 ty_9 | exact rAr ty_9 | exact rArL ty_9 | exact rArR2 ty_9) ?_
      refine sp pMa ?_
      refine oNil ?_
      refine aSeq ?_
      refine aReg ?_
      refine sp pM ?_
      refine sa ?_
      refine cai rfl rfl rfl (conf_wire (line := ln) G (by omega)) ?_
      refine sp pM ?_
      refine sp pX ?_
      refine sp pX ?_
      refine sq ?_
      refine qAlloc rfl rfl (by decide) ze_38 rfl (fun b9 => ?_)
      refine sa ?_
      refine oStW rfl rfl rfl rfl (by repeat constructor) ty_38 ?_
      refine sp pMa ?_
      refine oNil ?_
      refine aSeq ?_
      refine aSeq ?_
      refine aReg ?_
      refine sp pM ?_
      refine sp pNo ?_
      refine oNil ?_
      refine aCondNot rfl (fun c40 => ?_) (fun c40 => ?_)
      ·skip
       refine aSeq ?_
       refine aReg ?_
       refine sp pMa ?_
       refine sp pMa ?_
       refine sp pMa ?_
       refine sp pMa ?_
       refine oNil ?_
       have hP : parseA s = none := by
         rw [hPA, hv, hst, show wireA ln = none by cases h : wireA ln <;> simp_all]
         rfl
       have hT : parT s = .tup [.int 0, .int 0, .sl 5 [], .int 2] := by unfold parT; rw [hP]
       rw [hT]
       refine aWeak (weak_cast (k := 4) (b := .sl 5 []) rfl cast_nil) ?_
       refine aRet ?_
       exact finIs rfl rfl
      ·skip
       refine aSkip ?_
       obtain ⟨w, hw⟩ : ∃ w, wireA ln = some w := Option.isSome_iff_exists.1 (by simp_all)
       rw [hw]
       simp only [Option.getD_some]
       refine aReg ?_
       refine sp pM ?_
       refine sr (by first | exact rBWa ty_38 | exact rBW ty_38 | exact rBA ty_38) ?_
       refine sq ?_
       refine qLit (l := [_]) rfl rfl (by decide) us_22 ty_38 ze_38 rfl (by decide) (by decide) rfl rfl rfl (fun b43 => ?_)
       refine sa ?_
       refine oAppT ([w] : List Wi) rfl rfl (by repeat constructor) (srcOwn rfl (by repeat constructor) rfl) el_22 sl_22 (fun g44 k44 => ?_)
       refine sp pMa ?_
       refine oNil ?_
       refine aReg ?_
       refine sp pAd ?_
       refine sp pM ?_
       refine oNil ?_
       refine ⟨(i + 1, _, _, _), ?_, by (try dsimp only); omega, ⟨gInt rfl (by first | rfl | omega | simp), gInt rfl (by first | rfl | omega | simp), gInt rfl (by first | rfl | omega | simp), gLen rfl (by first | rfl | simp | (simp; omega)), rfl, rfl, rfl, trivial⟩, _, (by repeat constructor)⟩
       refine ⟨by omega, by rw [List.length_append]; simp [hol], ?_⟩
       rw [hv, hst, hw]
       simp [Option.map_map, Function.comp_def]
     ·skip
      refine aExit rfl ?_
      refine aSeq ?_
      refine aSeq ?_
      have hW : wiresA t = some out := by rw [hv, List.drop_of_length_le (by omega)]; simp [wiresA]
      rw [hW] at hPA
      simp only at hPA
      refine aWeak (weak_settle (k := 4) rfl (by repeat constructor) (by first | rfl | (simp; done) | (simp; omega) | (simp_all; done))) ?_
      refine aReg ?_
      refine sp pM ?_
      refine sp pM ?_
      refine sp pM ?_
      refine sa ?_
      refine cai rfl rfl rfl (conf_Text (n := (oneA x [110, 111, 100, 101, 115])) (s := (oneA y [115, 101, 99, 116, 111, 114, 115])) (l := out) G (by omega)) ?_
      refine sp pM ?_
      refine sp pX ?_
      refine sp pX ?_
      refine sp pMa ?_
      refine sp pMa ?_
      refine oNil ?_
      refine aSeq ?_
      refine aReg ?_
      refine sp pM ?_
      refine sp pB ?_
      refine sp pM ?_
      refine oSplitNe 55 rfl (fun c55 => ?_) (fun c55 => ?_)
      ·skip
       refine gf ?_
       refine gf ?_
       refine gf ?_
       refine sp pK ?_
       refine oNil ?_
       refine aCondT rfl ?_
       refine aSeq ?_
       refine aReg ?_
       refine sp pMa ?_
       refine sp pMa ?_
       refine sp pMa ?_
       refine sp pMa ?_
       refine oNil ?_
       have hP : parseA s = none := by
         rw [hPA, if_neg]
         intro hh
         have ht : textE (oneA x [110, 111, 100, 101, 115]) (oneA y [115, 101, 99, 116, 111, 114, 115]) out = s := by unfold textE; rw [if_pos hh.1]; exact hh.2
         simp_all
       have hT : parT s = .tup [.int 0, .int 0, .sl 5 [], .int 2] := by unfold parT; rw [hP]
       rw [hT]
       refine aWeak (weak_cast (k := 4) (b := .sl 5 []) rfl cast_nil) ?_
       refine aRet ?_
       exact finIs rfl rfl
      ·skip
       refine gp pM ?_
       refine gp pM ?_
       refine gp pNeStr ?_
       refine sp pK ?_
       refine oNil ?_
       refine aCond rfl (fun c59 => ?_) (fun c59 => ?_)
       ·skip
        refine aSeq ?_
        refine aReg ?_
        refine sp pMa ?_
        refine sp pMa ?_
        refine sp pMa ?_
        refine sp pMa ?_
        refine oNil ?_
        have hP : parseA s = none := by
          rw [hPA, if_neg]
          intro hh
          have ht : textE (oneA x [110, 111, 100, 101, 115]) (oneA y [115, 101, 99, 116, 111, 114, 115]) out = s := by unfold textE; rw [if_pos hh.1]; exact hh.2
          simp_all
        have hT : parT s = .tup [.int 0, .int 0, .sl 5 [], .int 2] := by unfold parT; rw [hP]
        rw [hT]
        refine aWeak (weak_cast (k := 4) (b := .sl 5 []) rfl cast_nil) ?_
        refine aRet ?_
        exact finIs rfl rfl
       ·skip
        refine aSkip ?_
        refine aSeq ?_
        refine aReg ?_
        refine sp pM ?_
        refine sp pM ?_
        refine sp pM ?_
        refine sp pMa ?_
        refine sp pMa ?_
        refine sp pMa ?_
        refine sp pMa ?_
        refine oNil ?_
        have hm : mayP (oneA x [110, 111, 100, 101, 115]) (oneA y [115, 101, 99, 116, 111, 114, 115]) out = true := by cases hm : mayP (oneA x [110, 111, 100, 101, 115]) (oneA y [115, 101, 99, 116, 111, 114, 115]) out <;> simp_all
        have ht : textP (oneA x [110, 111, 100, 101, 115]) (oneA y [115, 101, 99, 116, 111, 114, 115]) out = s := by
          have : textE (oneA x [110, 111, 100, 101, 115]) (oneA y [115, 101, 99, 116, 111, 114, 115]) out = s := by simp_all
          unfold textE at this
          rwa [if_pos hm] at this
        have hP : parseA s = some ((oneA x [110, 111, 100, 101, 115]), (oneA y [115, 101, 99, 116, 111, 114, 115]), out) := by rw [hPA, if_pos ⟨hm, ht⟩]
        have hT : parT s = .tup [.int (oneA x [110, 111, 100, 101, 115]), .int (oneA y [115, 101, 99, 116, 111, 114, 115]), .sl 5 (out.map wirC), .int 0] := by unfold parT; rw [hP]
        rw [hT]
        refine aRet ?_
        exact finIs rfl rfl
end A
end Go.Proofs.YtgdfppjapnpcgaaDoor
