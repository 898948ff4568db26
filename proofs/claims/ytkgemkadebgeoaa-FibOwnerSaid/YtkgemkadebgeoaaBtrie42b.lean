/- What functions of the program compute: trie42b -/
import Derived.Test.YtkgemkadebgeoaaBtrie42
import Derived.Test.YtkgemkadebgeoaaProg
import Derived.KernelRfl
set_option linter.unusedVariables false
set_option linter.unusedSimpArgs false
namespace Go.Proofs.Ytkgemkadebgeoaa
namespace A

theorem fd_54_1 : fieldOf Try.prog 54 1 = some (1, 1, false) := by kernel_rfl
def codeP (T : PT) (cnt : Int) (b : Nat) (n tv : Int) : Int := if okP b n = true ∧ tv ≠ 0 then (if getA T b n = 0 ∧ cnt = 1000 then 4 else 0) else 1
def shapeP (T : PT) (cnt : Int) (b : Nat) (n tv : Int) : PT := if codeP T cnt b n tv = 0 then put T b 32 n.toNat tv else T
def cntP (T : PT) (cnt : Int) (b : Nat) (n tv : Int) : Int := if codeP T cnt b n tv = 0 ∧ getA T b n = 0 then cnt + 1 else cnt
/-- A node's cells are others, or one below is laid: the tree then. -/
theorem tree_set {T : AT} {b r k a : Nat} {tv tv' : Int} {x y x' y' : AT} {rest q : List HA} (h : asub T b r k = .node a tv x y) (hs : Spl T.heap (.box a (ndC tv x y)) rest) (hq : (q ++ (x.heap ++ y.heap)).Perm (x'.heap ++ y'.heap)) :
    (.box a (ndC tv' x' y') :: (q ++ rest)).Perm (arepl T b r k (.node a tv' x' y')).heap := by
  obtain ⟨c, h1, h2⟩ := tree_ctx k r T b (by rw [h]; rfl)
  have h3 := h2 (.node a tv' x' y') (by rw [h]; rfl)
  rw [h] at h1
  have h4 : (HA.box a (ndC tv x y) :: rest).Perm (.box a (ndC tv x y) :: ((x.heap ++ y.heap) ++ c)) := hs.perm.symm.trans h1
  have h5 := (List.perm_cons _).1 h4
  refine List.Perm.trans (List.Perm.cons _ ?_) h3.symm
  refine (h5.append_left q).trans ?_
  rw [← List.append_assoc]
  exact hq.append_right c
theorem nd_set {tv : Int} {x y N : AT} {q : Nat} (hq : q < 2) : setCells (ndC tv x y) (0 + 1 + ((q : Nat) : Int).toNat * 1) [.v N.ptr] = ndC tv (if q = 0 then N else x) (if q = 0 then y else N) := by
  have : q = 0 ∨ q = 1 := by omega
  rcases this with rfl | rfl <;> rfl
theorem asub_arepl : ∀ (k r : Nat) (T s : AT) (b : Nat), (asub T b r k).isNil = false → asub (arepl T b r k s) b r k = s
  | 0, r, T, s, b, _ => by rw [arepl_zero, asub_zero]
  | k + 1, 0, T, s, b, hn => by cases T <;> cases hn
  | k + 1, r + 1, T, s, b, hn => by
    cases T with
    | nil => rw [asub_nil] at hn; cases hn
    | node a tv x y =>
      have hn : (if b / 2 ^ r % 2 = 0 then asub x b r k else asub y b r k).isNil = false := hn
      show asub (if b / 2 ^ r % 2 = 0 then .node a tv (arepl x b r k s) y else .node a tv x (arepl y b r k s)) b (r + 1) (k + 1) = s
      split at hn
      · rename_i hb
        rw [if_pos hb]
        show (if b / 2 ^ r % 2 = 0 then asub (arepl x b r k s) b r k else asub y b r k) = s
        rw [if_pos hb]; exact asub_arepl k r x s b hn
      · rename_i hb
        rw [if_neg hb]
        show (if b / 2 ^ r % 2 = 0 then asub x b r k else asub (arepl y b r k s) b r k) = s
        rw [if_neg hb]; exact asub_arepl k r y s b hn
/-- The walk down: what holds at a node on the way. -/
def PutI (T T' : AT) (b m : Nat) (tv : Int) : Prop := T'.ptr = T.ptr ∧ T'.isNil = false ∧ put T'.shape b 32 m tv = put T.shape b 32 m tv
theorem ptr_not_nil {T T' : AT} (h : T'.ptr = T.ptr) (h2 : T.isNil = false) : T'.isNil = false := by
  cases T' with
  | nil => cases T with
    | nil => exact h2
    | node _ _ _ _ => cases h
  | node _ _ _ _ => rfl
theorem putI_lay {T T' : AT} {b m i a nb : Nat} {tv tv0 : Int} {x y : AT} (hI : PutI T T' b m tv) (hi : i < m) (hm : m ≤ 32) (hS : asub T' b 32 i = .node a tv0 x y) (hn : (if b / 2 ^ (31 - i) % 2 = 0 then x else y).isNil = true) :
    PutI T (arepl T' b 32 i (.node a tv0 (if b / 2 ^ (31 - i) % 2 = 0 then .node nb 0 .nil .nil else x) (if b / 2 ^ (31 - i) % 2 = 0 then y else .node nb 0 .nil .nil))) b m tv := by
  have hp := arepl_ptr i 32 T' (.node a tv0 (if b / 2 ^ (31 - i) % 2 = 0 then .node nb 0 .nil .nil else x) (if b / 2 ^ (31 - i) % 2 = 0 then y else .node nb 0 .nil .nil)) b (by rw [hS]; rfl) (by rw [hS]; rfl)
  refine ⟨hp.trans hI.1, ptr_not_nil hp hI.2.1, ?_⟩
  rw [arepl_shape, ← hI.2.2]
  have hsub : sub T'.shape b 32 i = .node tv0 x.shape y.shape := by rw [← asub_shape, hS]; rfl
  have hnx : (sub T'.shape b 32 (i + 1)).isNil = true := by
    rw [← asub_shape, asub_step i 32 T' b (by omega) hS, shape_isNil]
    exact hn
  have := put_lay (v := tv) i 32 m T'.shape tv0 x.shape y.shape hi hm hsub hnx
  rw [← this]
  congr 2
  show (AT.node a tv0 _ _).shape = if b / 2 ^ (31 - i) % 2 = 0 then _ else _
  split <;> rfl

theorem getA_ok {T : PT} {b m : Nat} (h : okP b m = true) : getA T b m = (sub T b 32 m).tv := by rw [getA, if_pos h]; rfl
theorem lay_perm {T' : AT} {a nb tb b i : Nat} {tv0 c' : Int} {x y : AT} {B : HA} {rest : List HA} (hS : asub T' b 32 i = .node a tv0 x y) (hs : Spl T'.heap (.box a (ndC tv0 x y)) rest) (hn : (if b / 2 ^ (31 - i) % 2 = 0 then x else y).isNil = true) :
    (HA.box a (setCells (ndC tv0 x y) (0 + 1 + ((b / 2 ^ (31 - i) % 2 : Nat) : Int).toNat * 1) [.v (AT.node nb 0 .nil .nil).ptr]) :: .box nb (ndC 0 .nil .nil) :: B :: .box tb [.v T'.ptr, .int c'] :: rest).Perm
      (B :: trieH tb (arepl T' b 32 i (.node a tv0 (if b / 2 ^ (31 - i) % 2 = 0 then .node nb 0 .nil .nil else x) (if b / 2 ^ (31 - i) % 2 = 0 then y else .node nb 0 .nil .nil))) c') := by
  have hp := arepl_ptr i 32 T' (.node a tv0 (if b / 2 ^ (31 - i) % 2 = 0 then .node nb 0 .nil .nil else x) (if b / 2 ^ (31 - i) % 2 = 0 then y else .node nb 0 .nil .nil)) b (by rw [hS]; rfl) (by rw [hS]; rfl)
  rw [nd_set (lt2 _)]
  show List.Perm _ (B :: .box tb [.v (arepl _ _ _ _ _).ptr, .int c'] :: (arepl _ _ _ _ _).heap)
  rw [hp]
  have h1 := tree_set (tv' := tv0) (x' := if b / 2 ^ (31 - i) % 2 = 0 then .node nb 0 .nil .nil else x) (y' := if b / 2 ^ (31 - i) % 2 = 0 then y else .node nb 0 .nil .nil) (q := [.box nb (ndC 0 .nil .nil)]) hS hs (by
    by_cases hb : b / 2 ^ (31 - i) % 2 = 0
    · simp only [if_pos hb] at hn ⊢
      rw [is_nil hn]
      exact .refl _
    · simp only [if_neg hb] at hn ⊢
      rw [is_nil hn]
      simp only [AT.heap, List.append_nil, List.nil_append]
      exact List.perm_append_comm)
  refine List.Perm.trans ?_ ((h1.cons _).cons _)
  refine (List.Perm.cons _ (List.Perm.swap _ _ _)).trans ?_
  refine (List.Perm.swap _ _ _).trans ?_
  refine List.Perm.cons _ ?_
  refine (List.Perm.cons _ (List.Perm.swap _ _ _)).trans ?_
  exact List.Perm.swap _ _ _
theorem end_perm {T' : AT} {a tb b m : Nat} {tv tv0 c' : Int} {x y : AT} {B : HA} {rest : List HA} (hS : asub T' b 32 m = .node a tv0 x y) (hs : Spl T'.heap (.box a (ndC tv0 x y)) rest) :
    (HA.box a (ndC tv x y) :: B :: .box tb [.v T'.ptr, .int c'] :: rest).Perm (B :: trieH tb (arepl T' b 32 m (.node a tv x y)) c') := by
  have hp := arepl_ptr m 32 T' (.node a tv x y) b (by rw [hS]; rfl) (by rw [hS]; rfl)
  show List.Perm _ (B :: .box tb [.v (arepl _ _ _ _ _).ptr, .int c'] :: (arepl _ _ _ _ _).heap)
  rw [hp]
  have h1 := tree_set (tv' := tv) (x' := x) (y' := y) (q := []) hS hs (.refl _)
  refine List.Perm.trans ?_ ((h1.cons _).cons _)
  refine (List.Perm.swap _ _ _).trans ?_
  exact List.Perm.cons _ (List.Perm.swap _ _ _)
theorem putI_end {T T' : AT} {b m a : Nat} {tv tv0 : Int} {x y : AT} (hI : PutI T T' b m tv) (hm : m ≤ 32) (hS : asub T' b 32 m = .node a tv0 x y) : (arepl T' b 32 m (.node a tv x y)).isNil = false ∧ (arepl T' b 32 m (.node a tv x y)).shape = put T.shape b 32 m tv := by
  have hp := arepl_ptr m 32 T' (.node a tv x y) b (by rw [hS]; rfl) (by rw [hS]; rfl)
  refine ⟨ptr_not_nil hp hI.2.1, ?_⟩
  rw [arepl_shape, ← hI.2.2]
  exact put_end m 32 T'.shape tv0 x.shape y.shape hm (by rw [← asub_shape, hS]; rfl)

/- trie.Trie).Put -/
def trie_Put_r14_T : Bool × List (List Nat × List Nat) := (true, [([], []), ([], []), ([1], [1]), ([2], [2]), ([], []), ([3, 4], [3, 4]), ([0], [0]), ([6], [6]), ([7, 5], [5, 7]), ([8, 5, 0, 1, 2, 3, 4, 5, 6, 7, 8], [8])])
def trie_Put_r14_B : List Nat := [0, 0, 2, 6, 0, 30, 1, 65, 255, 511]
theorem trie_Put_r14_t : Go.Proofs.YtkgemkadebgeoaaW.PrintLast.rtab .any (Go.Proofs.YtkgemkadebgeoaaW.PrintLast.opsOf Try.f22 14) = trie_Put_r14_T := by kernel_rfl
theorem trie_Put_r14_b : Go.Proofs.YtkgemkadebgeoaaW.PrintLast.waitsOk trie_Put_r14_T.2 trie_Put_r14_B = true := by kernel_rfl
set_option maxRecDepth 100000 in
set_option maxHeartbeats 1000000 in
theorem trie_Put (tb : Nat) (T : AT) (cnt : Int) (b : Nat) (n tv : Int) (hb : b < 2 ^ 32) (hT : T.isNil = false) (hc : -1000000 ≤ cnt ∧ cnt ≤ 1000000) : Triple Try.prog 22 [trieP tb, .agg [u32 b, .int n, .int tv]] (trieH tb T cnt) (fun r h' => r = .int (codeP T.shape cnt b n tv) ∧ ∃ T' : AT, T'.isNil = false ∧ h' = trieH tb T' (cntP T.shape cnt b n tv) ∧ T'.shape = shapeP T.shape cnt b n tv) := by
  refine triple_of Try.func22 rfl (by kernel_rfl) rfl (by simp) ?_
  refine aSeq ?_
  refine aReg ?_
  refine sq ?_
  refine qBox rfl rfl (by decide) rfl rfl (fun b3 => ?_)
  refine sp pMa ?_
  refine oNil ?_
  refine aSeq ?_
  refine aBlock ?_
  refine aSeq ?_
  refine aReg ?_
  refine sp pM ?_
  refine sq ?_
  refine qCallV rfl rfl (by decide) rfl rfl (.cons (.sp (by simp)) .nil) (trie_is T cnt) ?_
  rw [hT]
  refine sp pNo ?_
  refine sp pMa ?_
  refine oNil ?_
  refine aCondF rfl ?_
  refine aSeq ?_
  refine aReg ?_
  refine sp (pFb fd_31_0) ?_
  refine sr (by first | exact rBWa ty_29 | exact rBW ty_29 | exact rBA ty_29) ?_
  refine sq ?_
  refine qCallV rfl rfl (by decide) rfl rfl (lents_refl _) (prefix_Check b n hb) ?_
  refine sp pB ?_
  refine sp pM ?_
  refine oSplitNe 19 rfl (fun c19 => ?_) (fun c19 => ?_)
  · skip
    refine gf ?_
    refine gf ?_
    refine gf ?_
    refine sp pK ?_
    refine sp pMa ?_
    refine oNil ?_
    refine aCondT rfl ?_
    refine aSeq ?_
    refine aReg ?_
    refine sp pMa ?_
    refine oNil ?_
    refine aRet ?_
    have hz : codeP T.shape cnt b n tv = 1 := by
      rw [codeP, if_neg]
      rintro ⟨h1, h2⟩
      first
        | contradiction
        | (rw [h1] at c19; exact c19 rfl)
    refine ⟨_, trieH tb T cnt, [_], rfl, tk_after (l := [_]), ?_, T, hT, ?_, ?_⟩
    · rw [hz]; rfl
    · rw [cntP, if_neg (by rw [hz]; rintro ⟨h, _⟩; exact absurd h (by decide))]
    · rw [shapeP, if_neg (by rw [hz]; decide)]
  · skip
    refine gp (pFb fd_31_1) ?_
    refine gr (rB1 ty_3) ?_
    refine gp pB ?_
    refine sp pK ?_
    refine sp pMa ?_
    refine oNil ?_
    refine aCondEq rfl (fun c14 => ?_) (fun c14 => ?_)
    · skip
      refine aSeq ?_
      refine aReg ?_
      refine sp pMa ?_
      refine oNil ?_
      refine aRet ?_
      have hz : codeP T.shape cnt b n tv = 1 := by
        rw [codeP, if_neg]
        rintro ⟨h1, h2⟩
        first
          | contradiction
          | (rw [h1] at c19; exact c19 rfl)
      refine ⟨_, trieH tb T cnt, [_], rfl, tk_after (l := [_]), ?_, T, hT, ?_, ?_⟩
      · rw [hz]; rfl
      · rw [cntP, if_neg (by rw [hz]; rintro ⟨h, _⟩; exact absurd h (by decide))]
      · rw [shapeP, if_neg (by rw [hz]; decide)]
    · skip
      refine aSkip ?_
      refine aCutI (α := Int × Nat) (fun (c', m) => n = m ∧ m ≤ 32 ∧ c' = cntP T.shape cnt b n tv ∧ codeP T.shape cnt b n tv = 0) (fun (c', m) => ([(0, trieP tb), (3, .v (.pointer (some ⟨b3, 0, none⟩)))], .box b3 [u32 b, .int m, .int tv] :: trieH tb T c')) ?_ ?_
      · skip
        refine aSeq ?_
        have hok : okP b n = true := by
          cases h : okP b n with
          | true => rfl
          | false => rw [h] at c19; exact absurd c19 (by decide)
        obtain ⟨k1, k2, k3⟩ := okP_iff.1 hok
        obtain ⟨m, rfl⟩ : ∃ m : Nat, n = m := ⟨n.toNat, by omega⟩
        refine aReg ?_
        refine sp pM ?_
        refine sp (pFb fd_31_0) ?_
        refine sr (by first | exact rBWa ty_29 | exact rBW ty_29 | exact rBA ty_29) ?_
        refine sa ?_
        refine aCallTail (hfr := [_]) (hin := trieH tb T cnt) rfl rfl (by decide) rfl rfl (trie_Get tb T cnt b m hb hT) ?_
        rintro _ _ ⟨rfl, rfl⟩
        refine sp pM ?_
        refine sp pX ?_
        refine sp pX ?_
        refine sp pMa ?_
        refine sp pMa ?_
        refine oNil ?_
        refine aSeq ?_
        refine aReg ?_
        refine sp pM ?_
        refine sp pNo ?_
        refine oNil ?_
        refine aCondNot rfl (fun c32 => ?_) (fun c32 => ?_)
        · skip
          refine aSeq ?_
          refine aSeq ?_
          refine aReg ?_
          refine sp pM ?_
          refine sp (by first | exact pNv | exact pNs) ?_
          refine sp (by first | exact pFb fd_54_1 | exact pFs fd_54_1) ?_
          refine sr (by first | exact rS1 ty_3 | exact rB1 ty_3 | exact rAr ty_3 | exact rArL ty_3 | exact rArR ty_3 (by first | rfl | exact arrF_len one_len)) ?_
          refine sp pB ?_
          refine oNil ?_
          refine aCondEq rfl (fun c37 => ?_) (fun c37 => ?_)
          · skip
            refine aSeq ?_
            refine aReg ?_
            refine sp pMa ?_
            refine oNil ?_
            refine aRet ?_
            have hg : getA T.shape b m = 0 := by simpa using c32
            have hz : codeP T.shape cnt b m tv = 4 := by rw [codeP, if_pos ⟨hok, by assumption⟩, if_pos ⟨hg, by assumption⟩]
            refine ⟨_, trieH tb T cnt, [_], rfl, tk_after (l := [_]), ?_, T, hT, ?_, ?_⟩
            · rw [hz]; rfl
            · rw [cntP, if_neg (by rw [hz]; rintro ⟨h, _⟩; exact absurd h (by decide))]
            · rw [shapeP, if_neg (by rw [hz]; decide)]
          · skip
            refine aSkip ?_
            refine aReg ?_
            refine sp pM ?_
            refine sp (by first | exact pNv | exact pNs) ?_
            refine sp (by first | exact pFb fd_54_1 | exact pFs fd_54_1) ?_
            refine sr (by first | exact rS1 ty_3 | exact rB1 ty_3 | exact rAr ty_3 | exact rArL ty_3 | exact rArR ty_3 (by first | rfl | exact arrF_len one_len)) ?_
            refine sp pAd ?_
            refine sp (by first | exact pNv | exact pNs) ?_
            refine sp (by first | exact pFb fd_54_1 | exact pFs fd_54_1) ?_
            refine sa ?_
            refine oStB rfl rfl rfl rfl (by repeat constructor) ty_3 rfl (Nat.le_of_ble_eq_true rfl) rfl ?_
            refine oNil ?_
            have hcd : ¬ (getA T.shape b m = 0 ∧ cnt = 1000) → codeP T.shape cnt b m tv = 0 := fun h => by rw [codeP, if_pos ⟨hok, by assumption⟩, if_neg h]
            first
              | (have hg : getA T.shape b m = 0 := by simpa using c32
                 have hcode := hcd (fun h => by have := h.2; contradiction)
                 exact ⟨(cnt + 1, m), ⟨rfl, by omega, by rw [cntP, if_pos ⟨hcode, hg⟩], hcode⟩, Weak.trans (weak_perm (List.Perm.swap _ _ _)) (weak_env ⟨rfl, rfl, trivial⟩)⟩)
              | (have hg : getA T.shape b m ≠ 0 := by simpa using c32
                 have hcode := hcd (fun h => hg h.1)
                 exact ⟨(cnt, m), ⟨rfl, by omega, by rw [cntP, if_neg (fun h => hg h.2)], hcode⟩, weak_env ⟨rfl, rfl, trivial⟩⟩)
        · skip
          refine aSkip ?_
          have hcd : ¬ (getA T.shape b m = 0 ∧ cnt = 1000) → codeP T.shape cnt b m tv = 0 := fun h => by rw [codeP, if_pos ⟨hok, by assumption⟩, if_neg h]
          first
            | (have hg : getA T.shape b m = 0 := by simpa using c32
               have hcode := hcd (fun h => by have := h.2; contradiction)
               exact ⟨(cnt + 1, m), ⟨rfl, by omega, by rw [cntP, if_pos ⟨hcode, hg⟩], hcode⟩, Weak.trans (weak_perm (List.Perm.swap _ _ _)) (weak_env ⟨rfl, rfl, trivial⟩)⟩)
            | (have hg : getA T.shape b m ≠ 0 := by simpa using c32
               have hcode := hcd (fun h => hg h.1)
               exact ⟨(cnt, m), ⟨rfl, by omega, by rw [cntP, if_neg (fun h => hg h.2)], hcode⟩, weak_env ⟨rfl, rfl, trivial⟩⟩)
      · rintro ⟨c', m⟩ ⟨hnm, hm32, hc', hcode⟩
        subst hnm
        refine aSeq ?_
        refine aReg ?_
        refine sp pM ?_
        refine sp (by first | exact pNv | exact pNs) ?_
        refine sp (by first | exact pFb fd_54_0 | exact pFs fd_54_0) ?_
        refine sr (by first | exact rS1 ty_52 | exact rB1 ty_52 | exact rAr ty_52 | exact rArL ty_52 | exact rArR ty_52 (by first | rfl | exact arrF_len one_len)) ?_
        refine sp pMa ?_
        refine oNil ?_
        refine aSeq ?_
        refine aSeq ?_
        refine aReg ?_
        refine sp (by first | exact pFb fd_31_0 | exact pFs fd_31_0) ?_
        refine sp (by first | exact pFb fd_29_1 | exact pFs fd_29_1) ?_
        refine sr (by first | exact rS1 ty_3 | exact rB1 ty_3 | exact rAr ty_3 | exact rArL ty_3 | exact rArR ty_3 (by first | rfl | exact arrF_len one_len)) ?_
        refine sp pM ?_
        refine oNil ?_
        refine aBlock ?_
        obtain ⟨ra, rt, rx, ry, hR⟩ := not_nil hT
        refine aLoopI (α := Nat × AT × Nat × Int × AT × AT) (fun (i, T', a, tv0, x, y) => i ≤ m ∧ PutI T T' b m tv ∧ asub T' b 32 i = .node a tv0 x y) (fun (i, T', a, tv0, x, y) => ([(0, trieP tb), (3, .v (.pointer (some ⟨b3, 0, none⟩))), (7, .v (.pointer (some ⟨a, 0, none⟩))), (51, .int m), (52, .int i)], .box b3 [u32 b, .int m, .int tv] :: trieH tb T' c')) (fun (i, T', a, tv0, x, y) => m - i) (0, T, ra, rt, rx, ry) ?_ ?_ ?_
        · skip
          exact ⟨by omega, ⟨rfl, hT, rfl⟩, by rw [asub_zero]; exact hR⟩
        · skip
          exact weak_env ⟨rfl, rfl, gAv rfl (by rw [hR]; rfl), rfl, rfl, trivial⟩
        · rintro ⟨i, T', a, tv0, x, y⟩ ⟨hi, hI, hS⟩
          skip
          refine aSeq ?_
          refine aReg ?_
          refine sp pB ?_
          refine oNil ?_
          refine aSeq ?_
          refine aCondDec rfl (fun c53 => ?_) (fun c53 => ?_)
          · skip
            refine aSkip ?_
            refine aSeq ?_
            refine aBlock ?_
            refine aSeq ?_
            refine aReg ?_
            refine sp pM ?_
            refine sp pMa ?_
            refine oNil ?_
            refine aSeq ?_
            obtain ⟨rest, hs⟩ := asub_spl i 32 T' b hS
            refine aDrawT trie_Put_r14_t trie_Put_r14_b [] 10 #[false, false, false, false, false, false, false, false, false, false] (by kernel_rfl) rfl rfl (fun HT => ?_)
            refine dp HT 0 rfl pM ?_
            refine dp HT 1 rfl (by first | exact pFb fd_31_0 | exact pFs fd_31_0) ?_
            refine dp HT 2 rfl (by first | exact pFb fd_29_0 | exact pFs fd_29_0) ?_
            refine dr HT 3 rfl (by first | exact rS1 ty_27 | exact rB1 ty_27 | exact rAr ty_27 | exact rArL ty_27 | exact rArR ty_27 (by first | rfl | exact arrF_len one_len)) ?_
            refine dp HT 4 rfl pM ?_
            refine dp HT 6 rfl (by first | exact pNv | exact pNs) ?_
            refine dp HT 7 rfl (by first | exact pFb fd_129_1 | exact pFs fd_129_1) ?_
            refine dGo ?_
            refine e1 HT 5 rfl ?_
            refine qCallV rfl rfl (by decide) rfl rfl (lents_refl _) (trie_bit b i hb (by omega)) ?_
            refine ef HT 8 rfl (pIdxA rfl rfl rfl ar_127 (by omega) (by have := lt2 (b / 2 ^ (31 - i)); omega)) ?_
            refine ef HT 9 rfl pMa ?_
            refine eE HT ?_
            clear HT
            refine aCutI (α := AT × AT × AT) (fun (T2, x2, y2) => PutI T T2 b m tv ∧ asub T2 b 32 i = .node a tv0 x2 y2 ∧ (if b / 2 ^ (31 - i) % 2 = 0 then x2 else y2).isNil = false) (fun (T2, x2, y2) => ([(0, trieP tb), (3, .v (.pointer (some ⟨b3, 0, none⟩))), (51, .int m), (52, .int i), (9, .v (.pointer (some ⟨a, 0 + 1 + ((b / 2 ^ (31 - i) % 2 : Nat) : Int).toNat * 1, none⟩)))], .box b3 [u32 b, .int m, .int tv] :: trieH tb T2 c')) ?_ ?_
            · skip
              refine aSeq ?_
              refine aReg ?_
              refine sp pM ?_
              refine sp (by first | exact pNv | exact pNs) ?_
              refine sr (rLdB1 rfl rfl (.tl (.tl hs)) ty_52 (nd_get (lt2 _))) ?_
              refine sp (pPtrNil rfl (.inl rfl) rfl pt_52 (ptr_nil _) rfl) ?_
              refine oNil ?_
              refine aCond rfl (fun c67 => ?_) (fun c67 => ?_)
              · skip
                refine aReg ?_
                refine sp pM ?_
                refine sp (pBuild rfl st_129 ze_129 rfl rfl rfl rfl) ?_
                refine sq ?_
                refine qBox rfl rfl (by decide) rfl rfl (fun b70 => ?_)
                refine sp (by first | exact pNv | exact pNs) ?_
                refine sa ?_
                refine oStB rfl rfl rfl rfl (.tl (.tl (.tl hs))) ty_52 rfl (by have := lt2 (b / 2 ^ (31 - i)); show _ + 1 ≤ 3; omega) rfl ?_
                refine oNil ?_
                first
                  | (have hn : (if b / 2 ^ (31 - i) % 2 = 0 then x else y).isNil = true := by simpa using c67
                     exact ⟨(_, _, _), ⟨putI_lay (nb := b70) hI (by omega) hm32 hS hn, asub_arepl i 32 T' _ b (by rw [hS]; rfl), by split <;> rfl⟩, Weak.trans (weak_perm (lay_perm hS hs hn)) (weak_env ⟨rfl, rfl, rfl, rfl, rfl, trivial⟩)⟩)
                  | (have hn : (if b / 2 ^ (31 - i) % 2 = 0 then x else y).isNil = false := by simpa using c67
                     exact ⟨(T', x, y), ⟨hI, hS, hn⟩, weak_env ⟨rfl, rfl, rfl, rfl, rfl, trivial⟩⟩)
              · skip
                refine aSkip ?_
                first
                  | (have hn : (if b / 2 ^ (31 - i) % 2 = 0 then x else y).isNil = true := by simpa using c67
                     exact ⟨(_, _, _), ⟨putI_lay (nb := b70) hI (by omega) hm32 hS hn, asub_arepl i 32 T' _ b (by rw [hS]; rfl), by split <;> rfl⟩, Weak.trans (weak_perm (lay_perm hS hs hn)) (weak_env ⟨rfl, rfl, rfl, rfl, rfl, trivial⟩)⟩)
                  | (have hn : (if b / 2 ^ (31 - i) % 2 = 0 then x else y).isNil = false := by simpa using c67
                     exact ⟨(T', x, y), ⟨hI, hS, hn⟩, weak_env ⟨rfl, rfl, rfl, rfl, rfl, trivial⟩⟩)
            · rintro ⟨T2, x2, y2⟩ ⟨hI2, hS2, hn2⟩
              skip
              obtain ⟨rest, hs⟩ := asub_spl i 32 T2 b hS2
              refine aReg ?_
              refine sp pM ?_
              refine sp (by first | exact pNv | exact pNs) ?_
              refine sr (rLdB1 rfl rfl (.tl (.tl hs)) ty_52 (nd_get (lt2 _))) ?_
              refine sp pMa ?_
              refine oNil ?_
              refine aReg ?_
              refine sp pAd ?_
              refine sp pM ?_
              refine oNil ?_
              obtain ⟨a', tv', x', y', hC⟩ := not_nil hn2
              have hst := asub_step i 32 T2 b (by omega) hS2
              exact ⟨(i + 1, T2, a', tv', x', y'), ⟨by omega, hI2, hst.trans hC⟩, by show m - (i + 1) < m - i; omega, weak_env ⟨rfl, rfl, gAv rfl (by rw [hC]; rfl), rfl, gInt rfl (by simp), trivial⟩⟩
          · skip
            refine aExit rfl ?_
            refine aSeq ?_
            obtain ⟨rest, hs⟩ := asub_spl i 32 T' b hS
            refine aReg ?_
            refine sp pM ?_
            refine sp (by first | exact pFb fd_31_1 | exact pFs fd_31_1) ?_
            refine sr (by first | exact rS1 ty_3 | exact rB1 ty_3 | exact rAr ty_3 | exact rArL ty_3 | exact rArR ty_3 (by first | rfl | exact arrF_len one_len)) ?_
            refine sp (by first | exact pNv | exact pNs) ?_
            refine sp (by first | exact pFb fd_129_0 | exact pFs fd_129_0) ?_
            refine sa ?_
            refine oStB rfl rfl rfl rfl (.tl (.tl hs)) ty_3 rfl (Nat.le_of_ble_eq_true rfl) rfl ?_
            refine oNil ?_
            refine aSeq ?_
            refine aReg ?_
            refine sp pMa ?_
            refine oNil ?_
            have him : i = m := by omega
            subst him
            refine aWeak (weak_perm (end_perm (tv := tv) hS hs)) ?_
            refine aRet ?_
            obtain ⟨e1, e2⟩ := putI_end hI hm32 hS
            refine ⟨_, trieH tb _ c', [_], rfl, tk_after (l := [_]), ?_, _, e1, ?_, ?_⟩
            · rw [hcode]; rfl
            · rw [hc']
            · rw [shapeP, if_pos hcode, e2]; rfl

end A
end Go.Proofs.Ytkgemkadebgeoaa
