/- What functions of the program compute: order42 -/
import Derived.Test.YtkgemkadebgeoaaBlaw42
import Derived.Test.YtkgemkadebgeoaaProg
import Derived.KernelRfl
set_option linter.unusedVariables false
set_option linter.unusedSimpArgs false
namespace Go.Proofs.Ytkgemkadebgeoaa
namespace A

theorem es_48 : elemSize Try.prog 48 = some 1 := by kernel_rfl
theorem ik_5 : intKindOf Try.prog 5 = some .u8 := by kernel_rfl
theorem sl_48 : isSl Try.prog 48 = true := by kernel_rfl
theorem ty_5 : tyOf Try.prog 5 = some (1, false) := by kernel_rfl
def Ahd (x y : Ent) : Prop := aheadE x y = true
theorem allT_sorted : ∀ (r : Nat) (t : PT) (B : Nat), r ≤ 32 → B % 2 ^ r = 0 → (allT t B r).Pairwise Ahd
  | 0, t, B, _, _ => by
    rw [allT_zero]
    unfold one
    split <;> simp
  | r + 1, t, B, hr, hB => by
    rw [allT_step]
    have hp := two_pos r
    refine List.pairwise_append.2 ⟨by unfold one; split <;> simp, List.pairwise_append.2 ⟨allT_sorted r t.l B (by omega) (mod_left hB), allT_sorted r t.r _ (by omega) (mod_right hB), fun x hx y hy => ?_⟩, fun x hx y hy => ?_⟩
    · obtain ⟨j, a1, a2, a3, a4, a5, a6⟩ := allT_in r t.l B (by omega) (mod_left hB) x hx
      obtain ⟨k, b1, b2, b3, b4, b5, b6⟩ := allT_in r t.r _ (by omega) (mod_right hB) y hy
      have := two_pos j
      exact (ahead_of (.inl (by omega))).1
    · obtain ⟨rfl, _⟩ := one_mem hx
      rcases List.mem_append.1 hy with hy | hy
      · obtain ⟨k, b1, b2, b3, b4, b5, b6⟩ := allT_in r t.l B (by omega) (mod_left hB) y hy
        refine (ahead_of ?_).1
        show B < y.b ∨ (B = y.b ∧ 32 - (r + 1) < y.n)
        omega
      · obtain ⟨k, b1, b2, b3, b4, b5, b6⟩ := allT_in r t.r _ (by omega) (mod_right hB) y hy
        refine (ahead_of ?_).1
        show B < y.b ∨ (B = y.b ∧ 32 - (r + 1) < y.n)
        omega
theorem ahd_asymm {x y : Ent} (h : Ahd x y) (h2 : Ahd y x) : False := by
  simp only [Ahd, aheadE, Bool.or_eq_true, Bool.and_eq_true, decide_eq_true_eq, beq_iff_eq] at h h2
  omega
theorem sorted_eq : ∀ {l m : List Ent}, l.Pairwise Ahd → m.Pairwise Ahd → l.Perm m → l = m
  | [], m, _, _, h => h.symm.eq_nil.symm
  | x :: l, [], _, _, h => h.eq_nil
  | x :: l, y :: m, h1, h2, h => by
    have hxy : x = y := by
      have hx : x ∈ y :: m := h.mem_iff.1 (by simp)
      have hy : y ∈ x :: l := h.mem_iff.2 (by simp)
      rcases List.mem_cons.1 hx with e | hx
      · exact e
      · rcases List.mem_cons.1 hy with e | hy
        · exact e.symm
        · exact (ahd_asymm ((List.pairwise_cons.1 h1).1 y hy) ((List.pairwise_cons.1 h2).1 x hx)).elim
    subst hxy
    rw [sorted_eq (List.pairwise_cons.1 h1).2 (List.pairwise_cons.1 h2).2 ((List.perm_cons x).1 h)]
theorem putAux_perm {e : Ent} : ∀ {l : List Ent}, (∀ x ∈ l, sameP x e = false) → (putAux false l e).Perm (e :: l)
  | [], _ => by simp [putAux]
  | x :: l, h => by
    have hx := h x (by simp)
    have hl : ∀ y ∈ l, sameP y e = false := fun y hy => h y (by simp [hy])
    rw [putAux, hx]
    cases ha : aheadE x e with
    | true =>
      simp only [Bool.not_true, Bool.and_false, Bool.false_eq_true, if_false, List.nil_append, Bool.or_false]
      exact ((putAux_perm hl).cons x).trans (List.Perm.swap _ _ _)
    | false =>
      simp only [Bool.not_false, Bool.and_true, if_true, Bool.or_true, Bool.false_eq_true, if_false]
      rw [putAux_true hl]
      exact .refl _
theorem putAux_true_filter {e : Ent} : ∀ (l : List Ent), putAux true l e = l.filter (fun y => !sameP y e)
  | [] => rfl
  | x :: l => by
    rw [putAux, Bool.true_or, putAux_true_filter l, List.filter_cons]
    cases sameP x e <;> simp
def Apart (x y : Ent) : Prop := sameP x y = false
theorem sameP_comm (x y : Ent) : sameP x y = sameP y x := by rw [Bool.eq_iff_iff]; simp only [sameP, Bool.and_eq_true, beq_iff_eq]; omega
theorem apart_perm {l m : List Ent} (p : l.Perm m) (h : l.Pairwise Apart) : m.Pairwise Apart := h.perm p (fun {x y} h => by unfold Apart at *; rw [sameP_comm]; exact h)
theorem put_new {T T' : PT} {c : Int} {e : Ent} (he : EntOk e ∧ e.tv ≠ 0) (hnew : ∀ x ∈ allT T 0 32, sameP x e = false) (hc : c < 1000) (hs : T' = shapeP T c e.b e.n e.tv) :
    codeP T c e.b e.n e.tv = 0 ∧ cntP T c e.b e.n e.tv = c + 1 ∧ (allT T' 0 32).Perm (e :: allT T 0 32) := by
  have hok : okP e.b e.n = true := by rw [okP_iff]; exact ⟨by omega, by have := he.1.2.1; omega, he.1.2.2⟩
  have hg : getA T e.b e.n = 0 := by
    rw [← get_eq he.1.1, getI_nat]
    have := refGet_front (b := e.b) (n := e.n) (xs := allT T 0 32) (ys := []) (fun x hx h => by
      have := hnew x hx
      rw [Bool.eq_false_iff] at this
      exact this (by simpa [sameP] using h))
    rw [List.append_nil] at this
    rw [this]; rfl
  have hcode : codeP T c e.b e.n e.tv = 0 := by rw [codeP, if_pos ⟨hok, he.2⟩, if_neg (by omega)]
  refine ⟨hcode, by rw [cntP, if_pos ⟨hcode, hg⟩], ?_⟩
  rw [hs, shapeP, if_pos hcode, put_all he.1.1 hok he.2, putI_nat, show (e.tv == 0) = false by simpa using he.2]
  exact putAux_perm hnew
theorem drop_old {T T' : PT} {e : Ent} {m : List Ent} (he : EntOk e ∧ e.tv ≠ 0) (hp : (allT T 0 32).Perm (e :: m)) (ha : (e :: m).Pairwise Apart) (hs : T' = shapeD T e.b e.n) : getA T e.b e.n ≠ 0 ∧ (allT T' 0 32).Perm m := by
  have hok : okP e.b e.n = true := by rw [okP_iff]; exact ⟨by omega, by have := he.1.2.1; omega, he.1.2.2⟩
  have hg : getA T e.b e.n ≠ 0 := by
    intro h
    rw [← get_eq he.1.1, getI_nat] at h
    have := refGet_zero (fun x hx => (all_ok hx).2) h e (hp.mem_iff.2 (by simp))
    exact this ⟨rfl, rfl⟩
  refine ⟨hg, ?_⟩
  rw [hs, drop_all he.1.1, putI_nat, putAux_true_filter]
  refine (hp.filter _).trans ?_
  rw [List.filter_cons]
  have hself : sameP e ⟨e.b, e.n, 0⟩ = true := by simp [sameP]
  rw [hself]
  simp only [Bool.not_true, Bool.false_eq_true, if_false]
  rw [List.filter_eq_self.2 (fun y hy => ?_)]
  have h1 : sameP e y = false := (List.pairwise_cons.1 ha).1 y hy
  have h2 : sameP y ⟨e.b, e.n, 0⟩ = sameP y e := rfl
  rw [h2, sameP_comm, h1]; rfl
structure E42 where
  b : Nat
  n : Int
  tv : Int
def e42C (x : E42) : List AV := [u32 x.b, .int x.n, .int x.tv]
def toE (x : E42) : Ent := ⟨x.b, x.n.toNat, x.tv⟩
def goodE (x : E42) : Prop := okP x.b x.n = true ∧ x.tv ≠ 0
def diff42 (x y : E42) : Prop := ¬ (x.b = y.b ∧ x.n = y.n)
theorem toE_list {l : List E42} (hb : ∀ x ∈ l, x.b < 2 ^ 32) (hg : ∀ x ∈ l, goodE x) (hd : l.Pairwise diff42) : l.map e42C = (l.map toE).map entC ∧ (∀ e ∈ l.map toE, EntOk e ∧ e.tv ≠ 0) ∧ (l.map toE).Pairwise Apart := by
  refine ⟨?_, fun e he => ?_, ?_⟩
  · rw [List.map_map]
    refine List.map_congr_left (fun x hx => ?_)
    have := (okP_iff.1 (hg x hx).1).1
    simp [e42C, entC, toE, Int.toNat_of_nonneg this]
  · obtain ⟨x, hx, rfl⟩ := List.mem_map.1 he
    obtain ⟨h1, h2, h3⟩ := okP_iff.1 (hg x hx).1
    exact ⟨⟨hb x hx, by show x.n.toNat ≤ 32; omega, h3⟩, (hg x hx).2⟩
  · rw [List.pairwise_map]
    refine hd.imp_of_mem (fun {x y} hx hy h => ?_)
    have h1 := (okP_iff.1 (hg x hx).1).1
    have h2 := (okP_iff.1 (hg y hy).1).1
    unfold Apart
    rw [Bool.eq_false_iff]
    simp only [toE, sameP, ne_eq, Bool.and_eq_true, beq_iff_eq]
    rintro ⟨h3, h4⟩
    exact h ⟨h3, by omega⟩
theorem take_drop_perm {l : List Ent} {k : Nat} {e : Ent} (h : l[k]? = some e) : l.Perm (e :: (l.take k ++ l.drop (k + 1))) := by
  have : l = l.take k ++ (e :: l.drop (k + 1)) := by rw [← drop_step h, List.take_append_drop]
  conv => lhs; rw [this]
  exact List.perm_middle
theorem apart_lt {L : List Ent} {i j : Nat} {x y : Ent} (h : L.Pairwise Apart) (hj : L[j]? = some y) (hi : L[i]? = some x) (hji : j < i) : sameP y x = false := by
  obtain ⟨h1, rfl⟩ := List.getElem?_eq_some_iff.1 hj
  obtain ⟨h2, rfl⟩ := List.getElem?_eq_some_iff.1 hi
  exact List.pairwise_iff_getElem.1 h j i h1 h2 hji
theorem mid_perm {t l r : List HA} : (t ++ (l ++ r)).Perm (l ++ (t ++ r)) := by
  rw [← List.append_assoc, ← List.append_assoc]
  exact List.perm_append_comm.append_right r
theorem spl_app2 {x : HA} : ∀ {l r : List HA}, Spl (l ++ (x :: r)) x (l ++ r)
  | [], _ => .hd
  | _ :: _, _ => .tl spl_app2
def u8C (x : Nat) : List AV := [.v (.int .u8 (x : Int))]

/- waymarklaw42.TrieOrder -/
def law42_TrieOrder_r11_T : Bool × List (List Nat × List Nat) := (true, [([], []), ([], []), ([0, 1], [0, 1]), ([2], [2]), ([3], [3]), ([], []), ([], []), ([5, 6], [5, 6]), ([7], [7]), ([8], [8]), ([4, 9], [4, 9])])
def law42_TrieOrder_r11_B : List Nat := [0, 0, 3, 7, 15, 0, 0, 96, 224, 480, 1023]
theorem law42_TrieOrder_r11_t : Go.Proofs.YtkgemkadebgeoaaW.PrintLast.rtab .any (Go.Proofs.YtkgemkadebgeoaaW.PrintLast.opsOf Try.f4 11) = law42_TrieOrder_r11_T := by kernel_rfl
theorem law42_TrieOrder_r11_b : Go.Proofs.YtkgemkadebgeoaaW.PrintLast.waitsOk law42_TrieOrder_r11_T.2 law42_TrieOrder_r11_B = true := by kernel_rfl
def law42_TrieOrder_r23_T : Bool × List (List Nat × List Nat) := (true, [([], []), ([], []), ([], []), ([1, 2], [1, 2]), ([0, 3], [0, 3]), ([], []), ([], []), ([6], [6]), ([5, 7], [5, 7]), ([4, 8, 4], [4, 8]), ([9, 9, 0, 1, 2, 3, 4, 5, 6, 7, 8, 9], [1, 5, 9])])
def law42_TrieOrder_r23_B : List Nat := [0, 0, 0, 6, 15, 0, 0, 64, 224, 511, 1023]
theorem law42_TrieOrder_r23_t : Go.Proofs.YtkgemkadebgeoaaW.PrintLast.rtab .any (Go.Proofs.YtkgemkadebgeoaaW.PrintLast.opsOf Try.f4 23) = law42_TrieOrder_r23_T := by kernel_rfl
theorem law42_TrieOrder_r23_b : Go.Proofs.YtkgemkadebgeoaaW.PrintLast.waitsOk law42_TrieOrder_r23_T.2 law42_TrieOrder_r23_B = true := by kernel_rfl
set_option maxRecDepth 100000 in
set_option maxHeartbeats 4000000 in
theorem law42_TrieOrder (l : List E42) (tu : List Nat) (a : Nat) (ha : a < 2 ^ 32) (hlb : ∀ x ∈ l, x.b < 2 ^ 32) (hll : l.length ≤ 9223372036854775807) (htl : tu.length ≤ 9223372036854775807) (htu : ∀ u ∈ tu, u < 256) : Triple Try.prog 4 [AV.sl 3 (l.map e42C), AV.sl 1 (tu.map u8C), u32 a] [] (fun r h' => r = .v (.bool true) ∧ h' = []) := by
  refine triple_of Try.func4 rfl (by kernel_rfl) rfl (by simp) ?_
  refine aSeq ?_
  refine aReg ?_
  refine sp pMa ?_
  refine oNil ?_
  refine aSeq ?_
  refine aSeq ?_
  refine aReg ?_
  refine sp pM ?_
  refine sp (by first | exact pLm sl_26 | exact pLs sl_26) ?_
  refine sp pB ?_
  refine sp pM ?_
  refine oSplitDec 24 rfl (fun c24 => ?_) (fun c24 => ?_)
  · skip
    refine gf ?_
    refine gf ?_
    refine gf ?_
    refine sp pK ?_
    refine oNil ?_
    refine aCondT rfl ?_
    refine aSeq ?_
    refine aReg ?_
    refine sq ?_
    refine qCallV rfl rfl (by decide) rfl rfl (lents_refl _) law42_awake ?_
    refine sp pMa ?_
    refine oNil ?_
    refine aRet ?_
    refine ⟨_, [], _, rfl, .nil, rfl, rfl⟩
  · skip
    refine gp pM ?_
    refine gp (by first | exact pLm sl_48 | exact pLs sl_48) ?_
    refine gp pB ?_
    refine sp pK ?_
    refine oNil ?_
    refine aCondDec rfl (fun c28 => ?_) (fun c28 => ?_)
    · skip
      refine aSeq ?_
      refine aReg ?_
      refine sq ?_
      refine qCallV rfl rfl (by decide) rfl rfl (lents_refl _) law42_awake ?_
      refine sp pMa ?_
      refine oNil ?_
      refine aRet ?_
      refine ⟨_, [], _, rfl, .nil, rfl, rfl⟩
    · skip
      refine aSkip ?_
      refine aCutI (α := List Ent) (fun L => L.length = l.length ∧ (∀ e ∈ L, EntOk e ∧ e.tv ≠ 0) ∧ L.Pairwise Apart) (fun L => ([(0, AV.sl 3 (L.map entC)), (1, AV.sl 1 (tu.map u8C)), (2, u32 a)], [])) ?_ ?_
      · skip
        refine aSeq ?_
        refine aReg ?_
        refine sp pMa ?_
        refine oNil ?_
        refine aBlock ?_
        refine aLoopI (α := Nat) (fun i => i ≤ l.length ∧ (∀ x ∈ l.take i, goodE x) ∧ (l.take i).Pairwise diff42) (fun i => ([(0, AV.sl 3 (l.map e42C)), (1, AV.sl 1 (tu.map u8C)), (2, u32 a), (7, .int i)], [])) (fun i => l.length - i) 0 ?_ ?_ ?_
        · skip
          exact ⟨by omega, fun x hx => by simp at hx, by simp⟩
        · skip
          exact weak_sub ⟨rfl, rfl, rfl, gInt rfl (by simp), trivial⟩ .nil
        · rintro i ⟨hi, hg, hd⟩
          skip
          refine aSeq ?_
          refine aSeq ?_
          refine aReg ?_
          refine sp pM ?_
          refine sp pM ?_
          refine sp (by first | exact pLm sl_26 | exact pLs sl_26 | exact pLv sl_26) ?_
          refine sp pB ?_
          refine oNil ?_
          refine aCondDec rfl (fun c33 => ?_) (fun c33 => ?_)
          · skip
            refine aSkip ?_
            refine aSeq ?_
            refine aBlock ?_
            refine aSeq ?_
            refine aSeq ?_
            obtain ⟨x, hx⟩ : ∃ x, l[i]? = some x := ⟨_, List.getElem?_eq_getElem (by omega)⟩
            have hgx := hlb x (List.mem_of_getElem? hx)
            refine aReg ?_
            refine sp pM ?_
            refine sp pM ?_
            refine sp (pIdxS rfl rfl rfl es_26 (by omega) (map_get (f := e42C) hx)) ?_
            refine sp (by first | exact pFb fd_31_0 | exact pFs fd_31_0) ?_
            refine sr (by first | exact rSW ty_29 rfl | exact rSA ty_29 | exact rBWa ty_29 | exact rBW ty_29 | exact rBA ty_29 | exact rArA ty_29 (fun _ => rfl)) ?_
            refine sq ?_
            refine qCallV rfl rfl (by decide) rfl rfl (lents_refl _) (ref41_May x.b x.n (hlb x (List.mem_of_getElem? hx))) ?_
            refine sp pNo ?_
            refine sp pM ?_
            refine oSplitNot 43 rfl (fun c43 => ?_) (fun c43 => ?_)
            · skip
              refine gf ?_
              refine gf ?_
              refine gf ?_
              refine gf ?_
              refine gf ?_
              refine gf ?_
              refine sp pK ?_
              refine oNil ?_
              refine aCondT rfl ?_
              refine aSeq ?_
              refine aReg ?_
              refine sq ?_
              refine qCallV rfl rfl (by decide) rfl rfl (lents_refl _) law42_awake ?_
              refine sp pMa ?_
              refine oNil ?_
              refine aRet ?_
              refine ⟨_, [], _, rfl, .nil, rfl, rfl⟩
            · skip
              refine gp pM ?_
              refine gp pM ?_
              refine gp (pIdxS rfl rfl rfl es_26 (by omega) (map_get (f := e42C) hx)) ?_
              refine gp (by first | exact pFb fd_31_1 | exact pFs fd_31_1) ?_
              refine gr (by first | exact rS1 ty_3 | exact rB1 ty_3 | exact rAr ty_3 | exact rArL ty_3 | exact rArR ty_3 (by first | rfl | exact arrF_len one_len)) ?_
              refine gp pB ?_
              refine sp pK ?_
              refine oNil ?_
              refine aCondEq rfl (fun c50 => ?_) (fun c50 => ?_)
              · skip
                refine aSeq ?_
                refine aReg ?_
                refine sq ?_
                refine qCallV rfl rfl (by decide) rfl rfl (lents_refl _) law42_awake ?_
                refine sp pMa ?_
                refine oNil ?_
                refine aRet ?_
                refine ⟨_, [], _, rfl, .nil, rfl, rfl⟩
              · skip
                refine aSkip ?_
                refine aSeq ?_
                refine aReg ?_
                refine sp pMa ?_
                refine oNil ?_
                refine aBlock ?_
                refine aLoopI (α := Nat) (fun k => k ≤ i ∧ ∀ y ∈ l.take k, diff42 y x) (fun k => ([(0, AV.sl 3 (l.map e42C)), (1, AV.sl 1 (tu.map u8C)), (2, u32 a), (7, .int i), (8, .int k)], [])) (fun k => i - k) 0 ?_ ?_ ?_
                · skip
                  exact ⟨by omega, fun x hx => by simp at hx⟩
                · skip
                  exact weak_sub ⟨rfl, rfl, rfl, rfl, gInt rfl (by simp), trivial⟩ .nil
                · rintro k ⟨hk, hk2⟩
                  skip
                  refine aSeq ?_
                  refine aSeq ?_
                  refine aReg ?_
                  refine sp pM ?_
                  refine sp pM ?_
                  refine sp pB ?_
                  refine oNil ?_
                  refine aCondDec rfl (fun c54 => ?_) (fun c54 => ?_)
                  · skip
                    refine aSkip ?_
                    refine aSeq ?_
                    refine aBlock ?_
                    refine aSeq ?_
                    refine aDrawT law42_TrieOrder_r11_t law42_TrieOrder_r11_b [] 11 #[false, false, false, false, false, false, false, false, false, false, false] (by kernel_rfl) rfl rfl (fun HT => ?_)
                    refine dp HT 0 rfl pM ?_
                    refine dp HT 1 rfl pM ?_
                    obtain ⟨y, hy⟩ : ∃ y, l[k]? = some y := ⟨_, List.getElem?_eq_getElem (by omega)⟩
                    refine dp HT 2 rfl (pIdxS rfl rfl rfl es_26 (by omega) (map_get (f := e42C) hy)) ?_
                    refine dp HT 3 rfl (by first | exact pFb fd_31_0 | exact pFs fd_31_0) ?_
                    refine dr HT 4 rfl (by first | exact rSW ty_29 rfl | exact rSA ty_29 | exact rBWa ty_29 | exact rBW ty_29 | exact rBA ty_29 | exact rArA ty_29 (fun _ => rfl)) ?_
                    refine dp HT 5 rfl pM ?_
                    refine dp HT 6 rfl pM ?_
                    refine dp HT 7 rfl (pIdxS rfl rfl rfl es_26 (by omega) (map_get (f := e42C) hx)) ?_
                    refine dp HT 8 rfl (by first | exact pFb fd_31_0 | exact pFs fd_31_0) ?_
                    refine dr HT 9 rfl (by first | exact rSW ty_29 rfl | exact rSA ty_29 | exact rBWa ty_29 | exact rBW ty_29 | exact rBA ty_29 | exact rArA ty_29 (fun _ => rfl)) ?_
                    refine dp HT 10 rfl (pEqAe eq_29) ?_
                    refine dE HT ?_
                    clear HT
                    refine aCond rfl (fun c67 => ?_) (fun c67 => ?_)
                    · skip
                      refine aSeq ?_
                      refine aReg ?_
                      refine sq ?_
                      refine qCallV rfl rfl (by decide) rfl rfl (lents_refl _) law42_awake ?_
                      refine sp pMa ?_
                      refine oNil ?_
                      refine aRet ?_
                      refine ⟨_, [], _, rfl, .nil, rfl, rfl⟩
                    · skip
                      refine aSkip ?_
                      refine aReg ?_
                      refine sp pM ?_
                      refine sp pAd ?_
                      refine sp pMa ?_
                      refine oNil ?_
                      refine ⟨k + 1, ⟨by omega, fun z hz => ?_⟩, by show i - (k + 1) < i - k; omega, weak_sub ⟨rfl, rfl, rfl, rfl, gInt rfl (by simp), trivial⟩ .nil⟩
                      rw [take_step hy] at hz
                      rcases List.mem_append.1 hz with hz | hz
                      · exact hk2 z hz
                      · obtain rfl := List.mem_singleton.1 hz
                        intro h
                        simp [h.1, h.2] at c67
                  · skip
                    refine aExit rfl ?_
                    refine aReg ?_
                    refine sp pM ?_
                    refine sp pAd ?_
                    refine sp pMa ?_
                    refine oNil ?_
                    rw [show k = i by omega] at hk2
                    refine ⟨i + 1, ⟨by omega, ?_, ?_⟩, by show l.length - (i + 1) < l.length - i; omega, weak_sub ⟨rfl, rfl, rfl, gInt rfl (by simp), trivial⟩ .nil⟩
                    · intro y hy
                      rw [take_step hx] at hy
                      rcases List.mem_append.1 hy with hy | hy
                      · exact hg y hy
                      · obtain rfl := List.mem_singleton.1 hy
                        exact ⟨c43, c50⟩
                    · rw [take_step hx, List.pairwise_append]
                      exact ⟨hd, by simp, fun y hy z hz => by obtain rfl := List.mem_singleton.1 hz; exact hk2 y hy⟩
          · skip
            refine aExit rfl ?_
            rw [List.take_of_length_le (by omega)] at hg hd
            obtain ⟨t1, t2, t3⟩ := toE_list hlb hg hd
            exact ⟨l.map toE, ⟨by simp, t2, t3⟩, weak_sub ⟨gAv rfl (by rw [t1]), rfl, rfl, trivial⟩ .nil⟩
      · rintro L ⟨hLl, hok, hap⟩
        skip
        refine aSeq ?_
        refine aReg ?_
        refine sa ?_
        refine aCallTail (hfr := []) (hin := []) rfl rfl (by decide) rfl rfl trie_New ?_
        rintro _ _ ⟨sb, rs, rfl, rfl⟩
        refine sa ?_
        refine aCall (hin := []) (hfr := trieH sb _ _) rfl rfl (by decide) rfl rfl .nil trie_New ?_
        rintro _ _ ⟨tb, rt, rfl, rfl⟩
        refine sp pMa ?_
        refine sp pMa ?_
        refine oNil ?_
        refine aSeq ?_
        refine aReg ?_
        refine sq ?_
        refine qLit (l := []) rfl rfl (by decide) us_26 ty_31 ze_31 rfl (by decide) (by decide) rfl rfl rfl (fun b71 => ?_)
        refine sp pM ?_
        refine sa ?_
        refine oApp rfl rfl (by decide) rfl (by repeat constructor) (by simp) (.inl rfl) el_26 sl_26 (entC_len _) (by first | (simp; done) | (simp; omega)) (by first | (simp; done) | (simp; omega)) (fun g73 k73 => ?_)
        refine oWeak (weak_settle (k := 73) rfl .hd (by simp)) ?_
        refine oWeak (weak_sub (env' := [(73, .sl 3 (L.map entC)), (0, AV.sl 3 (L.map entC)), (1, AV.sl 1 (tu.map u8C)), (2, u32 a), (9, trieP sb), (10, trieP tb)]) (h' := trieH sb (.node rs 0 .nil .nil) 0 ++ trieH tb (.node rt 0 .nil .nil) 0) ⟨rfl, rfl, rfl, rfl, rfl, rfl, trivial⟩ (by repeat constructor)) ?_
        refine sp pMa ?_
        refine oNil ?_
        refine aSeq ?_
        refine aSeq ?_
        refine aReg ?_
        refine sp pMa ?_
        refine oNil ?_
        refine aBlock ?_
        refine aLoopI (α := Nat × AT × AT × List Ent) (fun (i, S, T, left) => (i ≤ L.length ∧ left.length + i = L.length) ∧ (S.isNil = false ∧ T.isNil = false) ∧ (allT S.shape 0 32).Perm (L.take i) ∧ (allT T.shape 0 32 ++ left).Perm L) (fun (i, S, T, left) => ([(0, AV.sl 3 (L.map entC)), (1, AV.sl 1 (tu.map u8C)), (2, u32 a), (9, trieP sb), (10, trieP tb), (11, .sl 3 (left.map entC)), (12, .int i)], trieH sb S i ++ trieH tb T i)) (fun (i, S, T, left) => L.length - i) (0, .node rs 0 .nil .nil, .node rt 0 .nil .nil, L) ?_ ?_ ?_
        · skip
          exact ⟨⟨by omega, by omega⟩, ⟨rfl, rfl⟩, .refl _, .refl _⟩
        · skip
          exact weak_env ⟨rfl, rfl, rfl, rfl, rfl, rfl, gInt rfl (by simp), trivial⟩
        · rintro ⟨i, S, T, left⟩ ⟨⟨hi, hleft⟩, ⟨hS, hT⟩, hpS, hpT⟩
          skip
          refine aSeq ?_
          refine aSeq ?_
          refine aReg ?_
          refine sp pM ?_
          refine sp pM ?_
          refine sp (by first | exact pLm sl_26 | exact pLs sl_26 | exact pLv sl_26) ?_
          refine sp pB ?_
          refine oNil ?_
          refine aCondDec rfl (fun c77 => ?_) (fun c77 => ?_)
          · skip
            refine aSkip ?_
            refine aSeq ?_
            refine aBlock ?_
            refine aSeq ?_
            refine aReg ?_
            refine sp pMa ?_
            refine oNil ?_
            refine aCutI (α := Nat) (fun k => k < left.length) (fun k => ([(0, AV.sl 3 (L.map entC)), (1, AV.sl 1 (tu.map u8C)), (2, u32 a), (9, trieP sb), (10, trieP tb), (11, .sl 3 (left.map entC)), (12, .int i), (13, .int k)], trieH sb S i ++ trieH tb T i)) ?_ ?_
            · skip
              refine aSeq ?_
              refine aReg ?_
              refine sp pM ?_
              refine sp pM ?_
              refine sp (by first | exact pLm sl_48 | exact pLs sl_48 | exact pLv sl_48) ?_
              refine sp pB ?_
              refine oNil ?_
              refine aCondDec rfl (fun c83 => ?_) (fun c83 => ?_)
              · skip
                obtain ⟨u, hu⟩ : ∃ u, tu[i]? = some u := ⟨_, List.getElem?_eq_getElem (by omega)⟩
                refine aReg ?_
                refine sp pM ?_
                refine sp pM ?_
                refine sp (pIdxS rfl rfl rfl es_48 (by omega) (map_get (f := u8C) hu)) ?_
                refine sr (by first | exact rS1 ty_5 | exact rB1 ty_5 | exact rAr ty_5 | exact rArL ty_5 | exact rArR ty_5 (by first | rfl | exact arrF_len one_len)) ?_
                refine sp (pConv rfl rfl ik_5 ik_3 (wrap_i64 (by omega) (by have := htu u (List.mem_of_getElem? hu); omega))) ?_
                refine sp pM ?_
                refine sp (by first | exact pLm sl_26 | exact pLs sl_26 | exact pLv sl_26) ?_
                refine sp (pRem rfl rfl rfl (by omega)) ?_
                refine sp pMa ?_
                refine oNil ?_
                first
                  | exact ⟨u % left.length, Nat.mod_lt _ (by omega), weak_env ⟨rfl, rfl, rfl, rfl, rfl, rfl, rfl, rfl, trivial⟩⟩
                  | exact ⟨0, by omega, weak_env ⟨rfl, rfl, rfl, rfl, rfl, rfl, rfl, rfl, trivial⟩⟩
              · skip
                refine aSkip ?_
                first
                  | exact ⟨u % left.length, Nat.mod_lt _ (by omega), weak_env ⟨rfl, rfl, rfl, rfl, rfl, rfl, rfl, rfl, trivial⟩⟩
                  | exact ⟨0, by omega, weak_env ⟨rfl, rfl, rfl, rfl, rfl, rfl, rfl, rfl, trivial⟩⟩
            · rintro k hk
              skip
              refine aSeq ?_
              refine aSeq ?_
              obtain ⟨e, he⟩ : ∃ e, L[i]? = some e := ⟨_, List.getElem?_eq_getElem (by omega)⟩
              have heL := List.mem_of_getElem? he
              have hek := hok e heL
              obtain ⟨f, hf⟩ : ∃ f, left[k]? = some f := ⟨_, List.getElem?_eq_getElem hk⟩
              have hfL : f ∈ L := hpT.mem_iff.1 (List.mem_append_right _ (List.mem_of_getElem? hf))
              have hfk := hok f hfL
              refine aReg ?_
              refine sp pM ?_
              refine sp pM ?_
              refine sp pM ?_
              refine sp (pIdxS rfl rfl rfl es_26 (by omega) (map_get (f := entC) he)) ?_
              refine sr (by first | exact rSW ty_31 rfl | exact rSA ty_31 | exact rBWa ty_31 | exact rBW ty_31 | exact rBA ty_31 | exact rArA ty_31 (fun _ => rfl)) ?_
              refine sa ?_
              refine aCall (hin := trieH sb S i) (hfr := trieH tb T i) rfl rfl (by decide) rfl rfl tk_app (trie_Put sb S i e.b e.n e.tv hek.1.1 hS (by omega)) ?_
              rintro _ _ ⟨rfl, S', hS', rfl, hs'⟩
              obtain ⟨p1, p2, p3⟩ := put_new hek (fun y hy => by
                have hm := hpS.mem_iff.1 hy
                obtain ⟨j, hj⟩ := List.getElem?_of_mem hm
                have hji : j < i := by have := (List.getElem?_eq_some_iff.1 hj).1; simp at this; omega
                rw [List.getElem?_take, if_pos hji] at hj
                exact apart_lt hap hj he hji) (by omega) hs'
              rw [p1, p2]
              refine sp (pBin rfl rfl rfl rfl (rfl : _ = Value.bool false)) ?_
              refine sp pM ?_
              refine gp pM ?_
              refine gp pM ?_
              refine gp pM ?_
              refine gp (pIdxS rfl rfl rfl es_26 (by omega) (map_get (f := entC) hf)) ?_
              refine gr (by first | exact rSW ty_31 rfl | exact rSA ty_31 | exact rBWa ty_31 | exact rBW ty_31 | exact rBA ty_31 | exact rArA ty_31 (fun _ => rfl)) ?_
              refine ga ?_
              refine aCallTail (hfr := trieH sb S' _) (hin := trieH tb T i) rfl rfl (by decide) rfl rfl (trie_Put tb T i f.b f.n f.tv hfk.1.1 hT (by omega)) ?_
              rintro _ _ ⟨rfl, T', hT', rfl, ht'⟩
              obtain ⟨q1, q2, q3⟩ := put_new hfk (fun y hy => by
                have hpp := apart_perm hpT.symm hap
                exact (List.pairwise_append.1 hpp).2.2 y hy f (List.mem_of_getElem? hf)) (by omega) ht'
              rw [q1, q2]
              refine gp (pBin rfl rfl rfl rfl (rfl : _ = Value.bool false)) ?_
              refine sp pK ?_
              refine oNil ?_
              refine aCondF rfl ?_
              refine aSkip ?_
              refine aDrawT law42_TrieOrder_r23_t law42_TrieOrder_r23_b [4, 9] 11 #[false, false, false, false, false, false, false, false, false, false, false] (by kernel_rfl) rfl rfl (fun HT => ?_)
              refine dp HT 1 rfl pM ?_
              refine dp HT 2 rfl pM ?_
              refine dp HT 3 rfl (pSlice rfl rfl es_26 (bdN rfl) (bdI rfl) (by first | omega | (simp only [List.length_map]; omega)) (by first | omega | (simp only [List.length_map]; omega))) ?_
              refine dp HT 5 rfl pM ?_
              refine dp HT 6 rfl pM ?_
              refine dp HT 7 rfl pAd ?_
              refine dp HT 8 rfl (pSlice rfl rfl es_26 (bdI (n := k + 1) (k := .i64) (gInt rfl (by omega))) (bdN rfl) (by first | omega | (simp only [List.length_map]; omega)) (by first | omega | (simp only [List.length_map]; omega))) ?_
              refine dGo ?_
              refine e1 HT 0 rfl ?_
              refine qLit (l := []) rfl rfl (by decide) us_26 ty_31 ze_31 rfl (by decide) (by decide) rfl rfl rfl (fun b108 => ?_)
              refine eLast ?_
              refine f1 HT 4 rfl ?_
              refine oApp rfl rfl (by decide) rfl (by repeat constructor) (by simp) (.inl rfl) el_26 sl_26 (fun z hz => entC_len left z (List.mem_of_mem_drop (List.mem_of_mem_take hz))) (by first | (simp; done) | (simp; omega)) (by first | (simp; done) | (simp; omega)) (fun g112 k112 => ?_)
              refine f1 HT 9 rfl ?_
              refine oApp rfl rfl (by decide) rfl (by repeat constructor) (by simp) (.inl rfl) el_26 sl_26 (fun z hz => entC_len left z (List.mem_of_mem_drop (List.mem_of_mem_take hz))) (by first | (simp; done) | (simp; omega)) (by first | (simp; done) | (simp; omega)) (fun g117 k117 => ?_)
              refine fWeak (weak_settle (k := 117) rfl (by repeat constructor) (by simp)) ?_
              refine fp HT 10 rfl pMa ?_
              refine fE HT ?_
              clear HT
              refine aReg ?_
              refine sp pM ?_
              refine sp pAd ?_
              refine sp pMa ?_
              refine oNil ?_
              refine ⟨(i + 1, S', T', left.take k ++ left.drop (k + 1)), ⟨⟨by omega, by simp only [List.length_append, List.length_take, List.length_drop]; omega⟩, ⟨hS', hT'⟩, ?_, ?_⟩, by show L.length - (i + 1) < L.length - i; omega, weak_env ⟨rfl, rfl, rfl, rfl, rfl, gAv rfl ?_, gInt rfl (by simp), trivial⟩⟩
              · rw [take_step he]; exact p3.trans ((hpS.cons e).trans (List.perm_append_singleton e _).symm)
              · exact (q3.append_right _).trans (List.perm_middle.symm.trans (((take_drop_perm hf).symm.append_left _).trans hpT))
              · congr 1
                simp only [List.map_nil, List.nil_append, List.drop_zero, Nat.sub_zero, List.length_map, List.map_append, List.map_take, List.map_drop]
                rw [List.take_of_length_le (l := List.drop (k + 1) (List.map entC left)) (by simp)]
          · skip
            refine aExit rfl ?_
            refine aSeq ?_
            have hie : i = L.length := by omega
            subst hie
            rw [List.take_length] at hpS
            have hl0 : left = [] := List.eq_nil_of_length_eq_zero (by omega)
            subst hl0
            rw [List.append_nil] at hpT
            have hAB : allT S.shape 0 32 = allT T.shape 0 32 := sorted_eq (allT_sorted 32 _ 0 (by decide) (by decide)) (allT_sorted 32 _ 0 (by decide) (by decide)) (hpS.trans hpT.symm)
            have hlA := hpT.length_eq
            refine aReg ?_
            refine sp pM ?_
            refine sp pM ?_
            refine sa ?_
            refine aCall (hin := trieH sb S L.length) (hfr := trieH tb T L.length) rfl rfl (by decide) rfl rfl tk_app (trie_Find sb S L.length a ha hS) ?_
            rintro _ _ ⟨rfl, rfl⟩
            rw [← find_eq ha, hAB]
            refine sp pM ?_
            refine sp pX ?_
            refine sp pX ?_
            refine sq ?_
            refine qAlloc rfl rfl (by decide) ze_31 rfl (fun b14 => ?_)
            refine sa ?_
            refine oStW rfl rfl rfl rfl (by repeat constructor) ty_31 ?_
            refine sp pMa ?_
            refine oNil ?_
            refine aSeq ?_
            refine aReg ?_
            refine sp pM ?_
            refine sp pM ?_
            refine sa ?_
            refine aCallTail (hfr := _ :: trieH sb S L.length) (hin := trieH tb T L.length) rfl rfl (by decide) rfl rfl (trie_Find tb T L.length a ha hT) ?_
            rintro _ _ ⟨rfl, rfl⟩
            rw [← find_eq ha]
            refine sp pM ?_
            refine sp pX ?_
            refine sp pX ?_
            refine sq ?_
            refine qAlloc rfl rfl (by decide) ze_31 rfl (fun b16 => ?_)
            refine sa ?_
            refine oStW rfl rfl rfl rfl (by repeat constructor) ty_31 ?_
            refine sp pMa ?_
            refine oNil ?_
            refine aSeq ?_
            refine aSeq ?_
            refine aReg ?_
            refine sr (by first | exact rBWa ty_31 | exact rBW ty_31 | exact rBA ty_31) ?_
            refine sr (by first | exact rBWa ty_31 | exact rBW ty_31 | exact rBA ty_31) ?_
            refine sp (pEqG rfl (.inr rfl) rfl rfl ep_31 rfl rfl rfl (show _ = false by simp)) ?_
            refine sp pM ?_
            refine gp pM ?_
            refine gp pM ?_
            refine gp (pEqB rfl (.inr rfl) rfl rfl bo_4 (show _ = false by simp)) ?_
            refine sp pK ?_
            refine sp pM ?_
            refine gp pM ?_
            refine ga ?_
            refine aCall (hin := trieH sb S L.length) (hfr := _ :: _ :: trieH tb T L.length) rfl rfl (by decide) rfl rfl (tk_mid (l := [_, _]) (t := trieH sb S L.length) (r := trieH tb T L.length)) (trie_All sb S L.length hS (by rw [hAB]; omega)) ?_
            rintro _ _ ⟨g140, k140, rfl, rfl⟩
            refine oWeak (weak_settle (k := 140) rfl .hd (by simp)) ?_
            refine oWeak (weak_perm (mid_perm (l := [_, _]))) ?_
            refine gp pM ?_
            refine ga ?_
            refine aCallTail (hfr := _ :: _ :: trieH sb S L.length) (hin := trieH tb T L.length) rfl rfl (by decide) rfl rfl (trie_All tb T L.length hT (by omega)) ?_
            rintro _ _ ⟨g142, k142, rfl, rfl⟩
            refine oWeak (weak_settle (k := 142) rfl (spl_app2 (l := _ :: _ :: trieH sb S _)) (by simp)) ?_
            refine ga ?_
            refine (qCallV rfl rfl (by decide) rfl rfl (lents_refl _) (ref42_Same (allT S.shape 0 32) (allT T.shape 0 32) (by rw [hAB]; omega) (by omega)) ?_).op
            rw [show decide (allT S.shape 0 32 = allT T.shape 0 32) = true by rw [hAB]; simp]
            refine gp pNo ?_
            refine sp pK ?_
            refine oNil ?_
            refine aCondF rfl ?_
            refine aSkip ?_
            refine aSeq ?_
            refine aSeq ?_
            refine aReg ?_
            refine sp pMa ?_
            refine oNil ?_
            refine aBlock ?_
            refine aLoopI (α := Nat × AT × Int) (fun (i, T, c) => i ≤ L.length ∧ T.isNil = false ∧ c = (L.length : Int) - i ∧ (allT T.shape 0 32).Perm (L.drop i)) (fun (i, T, c) => ([(0, AV.sl 3 (L.map entC)), (2, u32 a), (10, trieP tb), (18, .int i)], trieH tb T c)) (fun (i, T, c) => L.length - i) (0, T, L.length) ?_ ?_ ?_
            · skip
              exact ⟨by omega, hT, by omega, hpT⟩
            · skip
              exact weak_sub ⟨rfl, rfl, rfl, gInt rfl (by simp), trivial⟩ (tk_after (l := _ :: _ :: trieH sb S _))
            · rintro ⟨i, T, c⟩ ⟨hi, hT, hc, hpT⟩
              skip
              refine aSeq ?_
              refine aSeq ?_
              refine aReg ?_
              refine sp pM ?_
              refine sp pM ?_
              refine sp (by first | exact pLm sl_26 | exact pLs sl_26 | exact pLv sl_26) ?_
              refine sp pB ?_
              refine oNil ?_
              refine aCondDec rfl (fun c149 => ?_) (fun c149 => ?_)
              · skip
                refine aSkip ?_
                refine aSeq ?_
                refine aBlock ?_
                refine aSeq ?_
                obtain ⟨e, he⟩ : ∃ e, L[i]? = some e := ⟨_, List.getElem?_eq_getElem (by omega)⟩
                have heL := List.mem_of_getElem? he
                have hek := hok e heL
                refine aReg ?_
                refine sp pM ?_
                refine sp pM ?_
                refine sp pM ?_
                refine sp (pIdxS rfl rfl rfl es_26 (by omega) (map_get (f := entC) he)) ?_
                refine sp (by first | exact pFb fd_31_0 | exact pFs fd_31_0) ?_
                refine sr (by first | exact rSW ty_29 rfl | exact rSA ty_29 | exact rBWa ty_29 | exact rBW ty_29 | exact rBA ty_29 | exact rArA ty_29 (fun _ => rfl)) ?_
                refine sa ?_
                refine aCallTail (hfr := []) (hin := trieH tb T c) rfl rfl (by decide) rfl rfl (trie_Drop tb T c e.b e.n hek.1.1 hT (by omega)) ?_
                rintro _ _ ⟨rfl, T', hT', rfl, ht'⟩
                have hpe : (allT T.shape 0 32).Perm (e :: L.drop (i + 1)) := by rw [← drop_step he]; exact hpT
                obtain ⟨d1, d2⟩ := drop_old hek hpe (by rw [← drop_step he]; exact hap.sublist (List.drop_sublist _ _)) ht'
                rw [codeD, if_neg d1, if_neg d1]
                refine sp (pBin rfl rfl rfl rfl (rfl : _ = Value.bool false)) ?_
                refine oNil ?_
                refine aCondF rfl ?_
                refine aSkip ?_
                refine aReg ?_
                refine sp pM ?_
                refine sp pAd ?_
                refine sp pMa ?_
                refine oNil ?_
                exact ⟨(i + 1, T', c - 1), ⟨by omega, hT', by omega, d2⟩, by show L.length - (i + 1) < L.length - i; omega, weak_env ⟨rfl, rfl, rfl, gInt rfl (by simp), trivial⟩⟩
              · skip
                refine aExit rfl ?_
                refine aSeq ?_
                have hnil : allT T.shape 0 32 = [] := by
                  have h := hpT
                  rw [List.drop_of_length_le (by omega)] at h
                  exact h.eq_nil
                refine aReg ?_
                refine sp pM ?_
                refine sp pM ?_
                refine sa ?_
                refine aCallTail (hfr := []) (hin := trieH tb T c) rfl rfl (by decide) rfl rfl (trie_Find tb T c a ha hT) ?_
                rintro _ _ ⟨rfl, rfl⟩
                rw [← find_eq ha, hnil]
                refine sp pM ?_
                refine sp pX ?_
                refine sp pX ?_
                refine sq ?_
                refine qAlloc rfl rfl (by decide) ze_31 rfl (fun b19 => ?_)
                refine sa ?_
                refine oStW rfl rfl rfl rfl (by repeat constructor) ty_31 ?_
                refine sp pMa ?_
                refine oNil ?_
                refine aSeq ?_
                refine aReg ?_
                refine sp pM ?_
                refine sp pNo ?_
                refine sp pM ?_
                refine gp pM ?_
                refine ga ?_
                refine aCallTail (hfr := [_]) (hin := trieH tb T c) rfl rfl (by decide) rfl rfl (trie_All tb T c hT (by rw [hnil]; decide)) ?_
                rintro _ _ ⟨g170, k170, rfl, rfl⟩
                rw [hnil]
                refine gp (pLenV rfl rfl sl_26) ?_
                refine gp (pBin rfl rfl rfl rfl (rfl : _ = Value.bool true)) ?_
                refine sp pK ?_
                refine sp pM ?_
                refine ga ?_
                refine (qCallV rfl rfl (by decide) rfl rfl (lents_refl _) law42_awake ?_).op
                refine sp pK ?_
                refine sp pMa ?_
                refine oNil ?_
                refine aRet ?_
                refine ⟨_, [], _, rfl, .nil, rfl, rfl⟩

end A
end Go.Proofs.Ytkgemkadebgeoaa
