/- What functions of the program compute: trie42c -/
import Derived.Test.YtkgemkadebgeoaaBtrie42b
import Derived.Test.YtkgemkadebgeoaaProg
import Derived.KernelRfl
set_option linter.unusedVariables false
set_option linter.unusedSimpArgs false
namespace Go.Proofs.Ytkgemkadebgeoaa
namespace A

theorem ep_127 : eqPlan Try.prog 127 = some (2, [(0, .p), (1, .p)]) := by kernel_rfl
theorem ty_127 : tyOf Try.prog 127 = some (2, true) := by kernel_rfl
theorem ua_127 : Try.prog.underlying 127 = some (.array 2 52) := by kernel_rfl
theorem ze_127 : zeroOf Try.prog 127 = some (.agg #[.pointer none, .pointer none]) := by kernel_rfl
theorem tk_mid {t : List HA} : ∀ {l r : List HA}, Tk (l ++ (t ++ r)) t (l ++ r) := by
  induction t with
  | nil => intro l r; exact .nil
  | cons x t ih =>
    intro l r
    have : Spl (l ++ (x :: t ++ r)) x (l ++ (t ++ r)) := by
      induction l with
      | nil => exact .hd
      | cons y l ihl => exact .tl ihl
    exact .cons this ih
theorem tk_child {x y : AT} {q : Nat} {A B : HA} : Tk (A :: B :: (x.heap ++ y.heap)) (if q = 0 then x else y).heap (A :: B :: (if q = 0 then y else x).heap) := by
  split
  · exact tk_mid (l := [A, B])
  · have := tk_mid (t := y.heap) (l := A :: B :: x.heap) (r := [])
    simpa using this
theorem child_perm {x y S : AT} {q : Nat} {A B : HA} : (S.heap ++ (A :: B :: (if q = 0 then y else x).heap)).Perm (A :: B :: ((if q = 0 then S else x).heap ++ (if q = 0 then y else S).heap)) := by
  have h1 : (S.heap ++ (A :: B :: (if q = 0 then y else x).heap)).Perm (A :: B :: (S.heap ++ (if q = 0 then y else x).heap)) :=
    (List.perm_middle).trans (List.Perm.cons _ List.perm_middle)
  refine h1.trans (List.Perm.cons _ (List.Perm.cons _ ?_))
  split
  · exact .refl _
  · exact List.perm_append_comm
/-- What drop leaves. -/
def DropQ (S : AT) (b r k : Nat) : AV → List HA → Prop := fun v h' => ∃ S' : AT, v = .v S'.ptr ∧ h' = S'.heap ∧ S'.shape = dropT S.shape b r k ∧ (S'.isNil = true ∨ S'.ptr = S.ptr)
theorem leaves_ptr {x y : AT} : eqLeaves [(0, .p), (1, .p)] [.v x.ptr, .v y.ptr] [.v (.pointer none), .v (.pointer none)] = some (x.isNil && (y.isNil && true)) := by cases x <;> cases y <;> rfl
theorem asub_child {b r k a : Nat} {tv : Int} {x y : AT} : asub (.node a tv x y) b (r + 1) (k + 1) = asub (if b / 2 ^ r % 2 = 0 then x else y) b r k := by
  show (if b / 2 ^ r % 2 = 0 then asub x b r k else asub y b r k) = _
  split <;> rfl
theorem dropT_zero {b r : Nat} {tv : Int} {x y : PT} : dropT (.node tv x y) b r 0 = prune (.node 0 x y) := by cases r <;> rfl
theorem dropT_succ {b r k : Nat} {tv : Int} {x y : PT} : dropT (.node tv x y) b (r + 1) (k + 1) = if b / 2 ^ r % 2 = 0 then prune (.node tv (dropT x b r k) y) else prune (.node tv x (dropT y b r k)) := rfl

/- trie.drop -/
def trie_drop1_r4_T : Bool × List (List Nat × List Nat) := (true, [([], []), ([], []), ([], []), ([], []), ([2], [2]), ([4], [4]), ([5, 3], [3, 5]), ([6], [6]), ([], []), ([], []), ([9], [9]), ([7, 8, 10], [7, 8, 10]), ([0], [0]), ([12], [12]), ([13, 1, 0, 1, 2, 3, 4, 5, 6, 7, 8, 9, 10, 11], [1, 13]), ([14, 11, 11, 0, 1, 2, 3, 4, 5, 6, 7, 8, 9, 10, 11], [11, 14])])
def trie_drop1_r4_B : List Nat := [0, 0, 0, 0, 4, 20, 60, 124, 0, 0, 512, 2044, 1, 4097, 16383, 32767]
theorem trie_drop1_r4_t : Go.Proofs.YtkgemkadebgeoaaW.PrintLast.rtab .any (Go.Proofs.YtkgemkadebgeoaaW.PrintLast.opsOf Try.f72 4) = trie_drop1_r4_T := by kernel_rfl
theorem trie_drop1_r4_b : Go.Proofs.YtkgemkadebgeoaaW.PrintLast.waitsOk trie_drop1_r4_T.2 trie_drop1_r4_B = true := by kernel_rfl
set_option maxRecDepth 100000 in
set_option maxHeartbeats 1000000 in
theorem trie_drop1 (b m i : Nat) (hb : b < 2 ^ 32) (hm : m ≤ 32) (hi : i ≤ m) (a : Nat) (tv : Int) (x y : AT) (hp : (asub (.node a tv x y) b (32 - i) (m - i)).isNil = false) (ih : i < m → ∀ S : AT, S.isNil = false → (asub S b (32 - (i + 1)) (m - (i + 1))).isNil = false → Triple Try.prog 72 [.v S.ptr, .agg (pfxC b m), .int (i + 1)] S.heap (DropQ S b (32 - (i + 1)) (m - (i + 1)))) : Triple Try.prog 72 [.v (AT.node a tv x y).ptr, .agg (pfxC b m), .int i] (AT.node a tv x y).heap (DropQ (.node a tv x y) b (32 - i) (m - i)) := by
  refine triple_of Try.func72 rfl (by kernel_rfl) rfl (by simp) ?_
  refine aSeq ?_
  refine aReg ?_
  refine sq ?_
  refine qBox rfl rfl (by decide) rfl rfl (fun b4 => ?_)
  refine sp pMa ?_
  refine oNil ?_
  refine aCutI (α := Int × AT × AT) (fun (tw, x', y') => dropT (AT.node a tv x y).shape b (32 - i) (m - i) = prune (.node tw x'.shape y'.shape)) (fun (tw, x', y') => ([(0, .v (.pointer (some ⟨a, 0, none⟩)))], .box b4 (pfxC b m) :: (AT.node a tw x' y').heap)) ?_ ?_
  · skip
    refine aSeq ?_
    refine aReg ?_
    refine sp pM ?_
    refine sp (pFb fd_29_1) ?_
    refine sr (rB1 ty_3) ?_
    refine sp pB ?_
    refine oNil ?_
    refine aCondEq rfl (fun c11 => ?_) (fun c11 => ?_)
    · skip
      refine aReg ?_
      refine sp pM ?_
      refine sp (by first | exact pNv | exact pNs) ?_
      refine sp (by first | exact pFb fd_129_0 | exact pFs fd_129_0) ?_
      refine sa ?_
      refine oStB rfl rfl rfl rfl (by repeat constructor) ty_3 rfl (Nat.le_of_ble_eq_true rfl) rfl ?_
      refine oNil ?_
      first
        | (have him : i = m := by omega
           exact ⟨(0, x, y), by show dropT _ b _ (m - i) = _; rw [show m - i = 0 by omega, AT.shape, dropT_zero], Weak.trans (weak_perm (List.Perm.swap _ _ _)) (weak_env ⟨rfl, trivial⟩)⟩)
        | (refine ⟨(tv, (if b / 2 ^ (31 - i) % 2 = 0 then S' else x), (if b / 2 ^ (31 - i) % 2 = 0 then y else S')), ?_, ?_⟩
           · show dropT _ b _ (m - i) = _
             rw [show 32 - i = (31 - i) + 1 by omega, show m - i = (m - (i + 1)) + 1 by omega, AT.shape, dropT_succ]
             rw [show 32 - (i + 1) = 31 - i by omega] at hsh
             by_cases hbb : b / 2 ^ (31 - i) % 2 = 0
             · simp only [if_pos hbb] at hsh ⊢
               rw [hsh]
             · simp only [if_neg hbb] at hsh ⊢
               rw [hsh]
           · rw [show avCells (AV.v S'.ptr) = [.v S'.ptr] by cases S' <;> rfl]
             rw [show (HA.box a (setCells (ndC tv x y) (0 + 1 + ((b / 2 ^ (31 - i) % 2 : Nat) : Int).toNat * 1) [.v S'.ptr])) = .box a (ndC tv (if b / 2 ^ (31 - i) % 2 = 0 then S' else x) (if b / 2 ^ (31 - i) % 2 = 0 then y else S')) from congrArg (HA.box a) (nd_set (lt2 _))]
             exact Weak.trans (weak_perm (List.Perm.swap _ _ _)) (weak_env ⟨rfl, trivial⟩))
    · skip
      refine aSeq ?_
      refine aReg ?_
      refine sp (pFb fd_29_0) ?_
      refine sr (rB1 ty_27) ?_
      refine sp pM ?_
      refine sq ?_
      refine qCallV rfl rfl (by decide) rfl rfl (lents_refl _) (trie_bit b i hb (by omega)) ?_
      refine sp pMa ?_
      refine oNil ?_
      have hlt : i < m := by omega
      have hq : asub (.node a tv x y) b (32 - i) (m - i) = asub (if b / 2 ^ (31 - i) % 2 = 0 then x else y) b (32 - (i + 1)) (m - (i + 1)) := by
        rw [show 32 - i = (31 - i) + 1 by omega, show m - i = (m - (i + 1)) + 1 by omega, asub_child, show 32 - (i + 1) = 31 - i by omega]
      rw [hq] at hp
      have hC2 := hp
      have hC1 : (if b / 2 ^ (31 - i) % 2 = 0 then x else y).isNil = false := by
        cases h : (if b / 2 ^ (31 - i) % 2 = 0 then x else y) with
        | nil => rw [h, asub_nil] at hp; cases hp
        | node _ _ _ _ => rfl
      refine aDrawT trie_drop1_r4_t trie_drop1_r4_b [11, 15] 16 #[false, false, false, false, false, false, false, false, false, false, false, false, false, false, false, false] (by kernel_rfl) rfl rfl (fun HT => ?_)
      refine dp HT 0 rfl pM ?_
      refine dp HT 1 rfl pM ?_
      refine dp HT 2 rfl pM ?_
      refine dp HT 3 rfl pM ?_
      refine dp HT 4 rfl (by first | exact pNv | exact pNs) ?_
      refine dp HT 5 rfl (by first | exact pFb fd_129_1 | exact pFs fd_129_1) ?_
      refine dp HT 6 rfl (pIdxA rfl rfl rfl ar_127 (by omega) (by have := lt2 (b / 2 ^ (31 - i)); omega)) ?_
      refine dr HT 7 rfl (rLdB1 rfl rfl (.tl .hd) ty_52 (nd_get (lt2 _))) ?_
      refine dr HT 8 rfl (by first | exact rBWa ty_29 | exact rBW ty_29 | exact rBA ty_29) ?_
      refine dp HT 9 rfl pM ?_
      refine dp HT 10 rfl pAd ?_
      refine dp HT 12 rfl (by first | exact pNv | exact pNs) ?_
      refine dp HT 13 rfl (by first | exact pFb fd_129_1 | exact pFs fd_129_1) ?_
      refine dGo ?_
      refine eLast ?_
      refine f1 HT 11 rfl ?_
      refine aCall (hin := (if b / 2 ^ (31 - i) % 2 = 0 then x else y).heap) (hfr := .box b4 (pfxC b m) :: .box a (ndC tv x y) :: (if b / 2 ^ (31 - i) % 2 = 0 then y else x).heap) rfl rfl (by decide) rfl rfl tk_child (ih (by omega) (if b / 2 ^ (31 - i) % 2 = 0 then x else y) hC1 hC2) ?_
      rintro _ _ ⟨S', rfl, rfl, hsh, hpt⟩
      refine fWeak (weak_perm child_perm) ?_
      refine fp HT 14 rfl (pIdxA rfl rfl rfl ar_127 (by omega) (by have := lt2 (b / 2 ^ (31 - i)); omega)) ?_
      refine f1 HT 15 rfl ?_
      refine oStB rfl rfl rfl rfl (.tl .hd) ty_52 (by cases S' <;> rfl) (by have := lt2 (b / 2 ^ (31 - i)); show _ + 1 ≤ 3; omega) (by cases S' <;> rfl) ?_
      refine fE HT ?_
      clear HT
      first
        | (have him : i = m := by omega
           exact ⟨(0, x, y), by show dropT _ b _ (m - i) = _; rw [show m - i = 0 by omega, AT.shape, dropT_zero], Weak.trans (weak_perm (List.Perm.swap _ _ _)) (weak_env ⟨rfl, trivial⟩)⟩)
        | (refine ⟨(tv, (if b / 2 ^ (31 - i) % 2 = 0 then S' else x), (if b / 2 ^ (31 - i) % 2 = 0 then y else S')), ?_, ?_⟩
           · show dropT _ b _ (m - i) = _
             rw [show 32 - i = (31 - i) + 1 by omega, show m - i = (m - (i + 1)) + 1 by omega, AT.shape, dropT_succ]
             rw [show 32 - (i + 1) = 31 - i by omega] at hsh
             by_cases hbb : b / 2 ^ (31 - i) % 2 = 0
             · simp only [if_pos hbb] at hsh ⊢
               rw [hsh]
             · simp only [if_neg hbb] at hsh ⊢
               rw [hsh]
           · rw [show avCells (AV.v S'.ptr) = [.v S'.ptr] by cases S' <;> rfl]
             rw [show (HA.box a (setCells (ndC tv x y) (0 + 1 + ((b / 2 ^ (31 - i) % 2 : Nat) : Int).toNat * 1) [.v S'.ptr])) = .box a (ndC tv (if b / 2 ^ (31 - i) % 2 = 0 then S' else x) (if b / 2 ^ (31 - i) % 2 = 0 then y else S')) from congrArg (HA.box a) (nd_set (lt2 _))]
             exact Weak.trans (weak_perm (List.Perm.swap _ _ _)) (weak_env ⟨rfl, trivial⟩))
  · rintro ⟨tw, x', y'⟩ hD
    skip
    refine aSeq ?_
    refine aSeq ?_
    refine aReg ?_
    refine sp pM ?_
    refine sp (by first | exact pNv | exact pNs) ?_
    refine sp (by first | exact pFb fd_129_0 | exact pFs fd_129_0) ?_
    refine sr (by first | exact rS1 ty_3 | exact rB1 ty_3 | exact rAr ty_3 | exact rArL ty_3 | exact rArR ty_3 (by first | rfl | exact arrF_len one_len)) ?_
    refine sp pB ?_
    refine sp pM ?_
    refine oSplitEq 39 rfl (fun c39 => ?_) (fun c39 => ?_)
    · skip
      refine gp pM ?_
      refine gp (by first | exact pNv | exact pNs) ?_
      refine gp (by first | exact pFb fd_129_1 | exact pFs fd_129_1) ?_
      refine gr (rLdBA rfl rfl (.tl .hd) ty_127 (Nat.le_of_ble_eq_true rfl)) ?_
      refine gp (pBuildA0 rfl ua_127 ty_52 ze_127 rfl) ?_
      refine gp (pEqG rfl (.inl rfl) rfl rfl ep_127 rfl rfl leaves_ptr rfl) ?_
      refine sp pK ?_
      refine oNil ?_
      refine aCond rfl (fun c46 => ?_) (fun c46 => ?_)
      · skip
        refine aSeq ?_
        refine aReg ?_
        refine sp pMa ?_
        refine oNil ?_
        refine aRet ?_
        refine ⟨_, [], _, rfl, .nil, .nil, rfl, rfl, ?_, .inl rfl⟩
        rw [hD]
        have h1 : tw = 0 := by assumption
        have h2 : x'.isNil = true ∧ y'.isNil = true := by simpa using c46
        rw [prune, if_pos (by exact ⟨h1, by rw [PT.l, shape_isNil]; exact h2.1, by rw [PT.r, shape_isNil]; exact h2.2⟩)]
        rfl
      · skip
        refine aSkip ?_
        refine aSeq ?_
        refine aReg ?_
        refine sp pM ?_
        refine sp pMa ?_
        refine oNil ?_
        refine aRet ?_
        refine ⟨_, (AT.node a tw x' y').heap, [_], rfl, tk_after (l := [_]), .node a tw x' y', rfl, rfl, ?_, .inr rfl⟩
        rw [hD, prune, if_neg]
        · rfl
        · rintro ⟨h1, h2, h3⟩
          rw [PT.l, shape_isNil] at h2
          rw [PT.r, shape_isNil] at h3
          first
            | contradiction
            | (simp [h2, h3] at c46; done)
            | (have h1 : tw = 0 := h1; contradiction)
    · skip
      refine gf ?_
      refine gf ?_
      refine gf ?_
      refine gf ?_
      refine gf ?_
      refine gf ?_
      refine sp pK ?_
      refine oNil ?_
      refine aCondF rfl ?_
      refine aSkip ?_
      refine aSeq ?_
      refine aReg ?_
      refine sp pM ?_
      refine sp pMa ?_
      refine oNil ?_
      refine aRet ?_
      refine ⟨_, (AT.node a tw x' y').heap, [_], rfl, tk_after (l := [_]), .node a tw x' y', rfl, rfl, ?_, .inr rfl⟩
      rw [hD, prune, if_neg]
      · rfl
      · rintro ⟨h1, h2, h3⟩
        rw [PT.l, shape_isNil] at h2
        rw [PT.r, shape_isNil] at h3
        first
          | contradiction
          | (simp [h2, h3] at c46; done)
          | (have h1 : tw = 0 := h1; contradiction)

theorem trie_drop (b m : Nat) (hb : b < 2 ^ 32) (hm : m ≤ 32) : ∀ (d i : Nat) (S : AT), m - i = d → i ≤ m → S.isNil = false → (asub S b (32 - i) (m - i)).isNil = false → Triple Try.prog 72 [.v S.ptr, .agg (pfxC b m), .int i] S.heap (DropQ S b (32 - i) (m - i)) := by
  intro d
  induction d with
  | zero =>
    intro i S hd hi hS hp
    obtain ⟨a, tv, x, y, rfl⟩ := not_nil hS
    exact trie_drop1 b m i hb hm hi a tv x y hp (fun h => by omega)
  | succ d ih =>
    intro i S hd hi hS hp
    obtain ⟨a, tv, x, y, rfl⟩ := not_nil hS
    exact trie_drop1 b m i hb hm hi a tv x y hp (fun h S hS hp => ih (i + 1) S (by omega) (by omega) hS hp)
def codeD (T : PT) (b : Nat) (n : Int) : Int := if getA T b n = 0 then 3 else 0
def refill (d : PT) : PT := if d.isNil then .node 0 .nil .nil else d
def shapeD (T : PT) (b : Nat) (n : Int) : PT := if getA T b n = 0 then T else refill (dropT T b 32 n.toNat)
theorem get_path {T : AT} {b m : Nat} (hok : okP b m = true) (h : getA T.shape b m ≠ 0) : (asub T b 32 m).isNil = false := by
  cases hq : asub T b 32 m with
  | nil => rw [getA_ok hok, ← asub_shape, hq] at h; exact absurd rfl h
  | node _ _ _ _ => rfl
theorem getA_okP {T : PT} {b : Nat} {n : Int} (h : getA T b n ≠ 0) : okP b n = true := by
  unfold getA at h
  split at h
  · assumption
  · exact absurd rfl h

/- trie.Trie).Drop -/
def trie_Drop_r6_T : Bool × List (List Nat × List Nat) := (true, [([], []), ([0], [0]), ([1], [1]), ([2], [2]), ([], []), ([3, 4], [3, 4]), ([5], [5])])
def trie_Drop_r6_B : List Nat := [0, 1, 3, 7, 0, 31, 63]
theorem trie_Drop_r6_t : Go.Proofs.YtkgemkadebgeoaaW.PrintLast.rtab .any (Go.Proofs.YtkgemkadebgeoaaW.PrintLast.opsOf Try.f20 6) = trie_Drop_r6_T := by kernel_rfl
theorem trie_Drop_r6_b : Go.Proofs.YtkgemkadebgeoaaW.PrintLast.waitsOk trie_Drop_r6_T.2 trie_Drop_r6_B = true := by kernel_rfl
set_option maxRecDepth 100000 in
set_option maxHeartbeats 1000000 in
theorem trie_Drop (tb : Nat) (T : AT) (cnt : Int) (b : Nat) (n : Int) (hb : b < 2 ^ 32) (hT : T.isNil = false) (hc : -1000000 ≤ cnt ∧ cnt ≤ 1000000) : Triple Try.prog 20 [trieP tb, .agg (pfxC b n)] (trieH tb T cnt) (fun r h' => r = .int (codeD T.shape b n) ∧ ∃ T' : AT, T'.isNil = false ∧ h' = trieH tb T' (if getA T.shape b n = 0 then cnt else cnt - 1) ∧ T'.shape = shapeD T.shape b n) := by
  refine triple_of Try.func20 rfl (by kernel_rfl) rfl (by simp) ?_
  refine aSeq ?_
  refine aReg ?_
  refine sq ?_
  refine qBox rfl rfl (by decide) rfl rfl (fun b3 => ?_)
  refine sp pMa ?_
  refine oNil ?_
  refine aSeq ?_
  refine aSeq ?_
  refine aReg ?_
  refine sp pM ?_
  refine sq ?_
  refine qCallV rfl rfl (by decide) rfl rfl (.cons (.sp (by simp)) .nil) (trie_is T cnt) ?_
  rw [hT]
  refine sp pNo ?_
  refine oNil ?_
  refine aCondF rfl ?_
  refine aSkip ?_
  refine aSeq ?_
  refine aSeq ?_
  refine aReg ?_
  refine sp pM ?_
  refine sr (by first | exact rBWa ty_29 | exact rBW ty_29 | exact rBA ty_29) ?_
  refine sa ?_
  refine aCallTail (hfr := [_]) (hin := trieH tb T cnt) rfl rfl (by decide) rfl rfl (trie_Get tb T cnt b n hb hT) ?_
  rintro _ _ ⟨rfl, rfl⟩
  refine sp pM ?_
  refine sp pX ?_
  refine sp pX ?_
  refine sp pMa ?_
  refine sp pMa ?_
  refine oNil ?_
  refine aSeq ?_
  refine aReg ?_
  refine sp pM ?_
  refine sp pNo ?_
  refine oNil ?_
  refine aCondNot rfl (fun c17 => ?_) (fun c17 => ?_)
  · skip
    refine aSeq ?_
    refine aReg ?_
    refine sp pMa ?_
    refine oNil ?_
    refine aRet ?_
    have hg : getA T.shape b n = 0 := by simpa using c17
    refine ⟨_, trieH tb T cnt, [_], rfl, tk_after (l := [_]), ?_, T, hT, ?_, ?_⟩
    · rw [codeD, if_pos hg]; rfl
    · rw [if_pos hg]
    · rw [shapeD, if_pos hg]
  · skip
    refine aSkip ?_
    refine aCutI (α := AT) (fun T' => getA T.shape b n ≠ 0 ∧ T'.isNil = false ∧ T'.shape = shapeD T.shape b n) (fun T' => ([(0, trieP tb)], .box b3 (pfxC b n) :: trieH tb T' cnt)) ?_ ?_
    · skip
      refine aSeq ?_
      have hg : getA T.shape b n ≠ 0 := by simpa using c17
      have hok := getA_okP hg
      obtain ⟨k1, k2, k3⟩ := okP_iff.1 hok
      obtain ⟨m, rfl⟩ : ∃ m : Nat, n = m := ⟨n.toNat, by omega⟩
      have hm32 : m ≤ 32 := by omega
      have hpath := get_path hok hg
      refine aDrawT trie_Drop_r6_t trie_Drop_r6_b [5] 7 #[false, false, false, false, false, false, false] (by kernel_rfl) rfl rfl (fun HT => ?_)
      refine dp HT 0 rfl pM ?_
      refine dp HT 1 rfl (by first | exact pNv | exact pNs) ?_
      refine dp HT 2 rfl (by first | exact pFb fd_54_0 | exact pFs fd_54_0) ?_
      refine dr HT 3 rfl (by first | exact rS1 ty_52 | exact rB1 ty_52 | exact rAr ty_52 | exact rArL ty_52 | exact rArR ty_52 (by first | rfl | exact arrF_len one_len)) ?_
      refine dr HT 4 rfl (by first | exact rBWa ty_29 | exact rBW ty_29 | exact rBA ty_29) ?_
      refine dGo ?_
      refine eLast ?_
      refine f1 HT 5 rfl ?_
      refine aCallTail (hfr := [_, _]) (hin := T.heap) rfl rfl (by decide) rfl rfl (trie_drop b m hb hm32 m 0 T (by omega) (by omega) hT hpath) ?_
      rintro _ _ ⟨S', rfl, rfl, hsh, hpt⟩
      refine fp HT 6 rfl (pPtrNil rfl (.inl rfl) rfl pt_52 (ptr_nil S') rfl) ?_
      refine fE HT ?_
      clear HT
      refine aCond rfl (fun c24 => ?_) (fun c24 => ?_)
      · skip
        refine aReg ?_
        refine sp pM ?_
        refine sp (pBuild rfl st_129 ze_129 rfl rfl rfl rfl) ?_
        refine sq ?_
        refine qBox rfl rfl (by decide) rfl rfl (fun b27 => ?_)
        refine sp (by first | exact pNv | exact pNs) ?_
        refine sp (by first | exact pFb fd_54_0 | exact pFs fd_54_0) ?_
        refine sa ?_
        refine oStB rfl rfl rfl rfl (by repeat constructor) ty_52 rfl (Nat.le_of_ble_eq_true rfl) rfl ?_
        refine oNil ?_
        have hsh2 : S'.shape = dropT T.shape b 32 (m : Int).toNat := hsh
        first
          | (have hn : S'.isNil = true := by simpa using c24
             refine ⟨.node b27 0 .nil .nil, ⟨hg, rfl, ?_⟩, weak_sub ⟨rfl, trivial⟩ (.cons (.tl (.tl .hd)) (.cons .hd (.cons .hd .nil)))⟩
             rw [shapeD, if_neg hg, refill, ← hsh2, shape_isNil, if_pos hn]; rfl)
          | (have hn : S'.isNil = false := by simpa using c24
             refine ⟨S', ⟨hg, hn, ?_⟩, ?_⟩
             · rw [shapeD, if_neg hg, refill, ← hsh2, shape_isNil, if_neg (by rw [hn]; decide)]
             · have hpp : S'.ptr = T.ptr := hpt.resolve_left (by rw [hn]; decide)
               rw [← hpp]
               exact weak_env ⟨rfl, trivial⟩)
      · skip
        refine aSkip ?_
        have hsh2 : S'.shape = dropT T.shape b 32 (m : Int).toNat := hsh
        first
          | (have hn : S'.isNil = true := by simpa using c24
             refine ⟨.node b27 0 .nil .nil, ⟨hg, rfl, ?_⟩, weak_sub ⟨rfl, trivial⟩ (.cons (.tl (.tl .hd)) (.cons .hd (.cons .hd .nil)))⟩
             rw [shapeD, if_neg hg, refill, ← hsh2, shape_isNil, if_pos hn]; rfl)
          | (have hn : S'.isNil = false := by simpa using c24
             refine ⟨S', ⟨hg, hn, ?_⟩, ?_⟩
             · rw [shapeD, if_neg hg, refill, ← hsh2, shape_isNil, if_neg (by rw [hn]; decide)]
             · have hpp : S'.ptr = T.ptr := hpt.resolve_left (by rw [hn]; decide)
               rw [← hpp]
               exact weak_env ⟨rfl, trivial⟩)
    · rintro T' ⟨hg, hn', hs'⟩
      skip
      refine aSeq ?_
      refine aReg ?_
      refine sp pM ?_
      refine sp (by first | exact pNv | exact pNs) ?_
      refine sp (by first | exact pFb fd_54_1 | exact pFs fd_54_1) ?_
      refine sr (by first | exact rS1 ty_3 | exact rB1 ty_3 | exact rAr ty_3 | exact rArL ty_3 | exact rArR ty_3 (by first | rfl | exact arrF_len one_len)) ?_
      refine sp pSu ?_
      refine sp (by first | exact pNv | exact pNs) ?_
      refine sp (by first | exact pFb fd_54_1 | exact pFs fd_54_1) ?_
      refine sa ?_
      refine oStB rfl rfl rfl rfl (by repeat constructor) ty_3 rfl (Nat.le_of_ble_eq_true rfl) rfl ?_
      refine oNil ?_
      refine aSeq ?_
      refine aReg ?_
      refine sp pMa ?_
      refine oNil ?_
      refine aRet ?_
      rw [codeD, if_neg hg, if_neg hg]
      exact ⟨_, _, [_], rfl, .cons .hd (tk_after (l := [_])), rfl, T', hn', rfl, hs'⟩

end A
end Go.Proofs.Ytkgemkadebgeoaa
