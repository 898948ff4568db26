/- What functions of the program compute: trie42h -/
import Derived.Test.YtkgemkadebgeoaaBtrie42p
import Derived.Test.YtkgemkadebgeoaaProg
import Derived.KernelRfl
set_option linter.unusedVariables false
set_option linter.unusedSimpArgs false
namespace Go.Proofs.Ytkgemkadebgeoaa
namespace A

inductive AT where
  | nil
  | node (b : Nat) (tv : Int) (l r : AT)
def AT.ptr : AT → Value
  | .nil => .pointer none
  | .node b _ _ _ => .pointer (some ⟨b, 0, none⟩)
def AT.isNil : AT → Bool
  | .nil => true
  | _ => false
abbrev ndC (tv : Int) (l r : AT) : List AV := [.int tv, .v l.ptr, .v r.ptr]
def AT.heap : AT → List HA
  | .nil => []
  | .node b tv l r => .box b (ndC tv l r) :: (l.heap ++ r.heap)
def AT.shape : AT → PT
  | .nil => .nil
  | .node _ tv l r => .node tv l.shape r.shape
def asub : AT → Nat → Nat → Nat → AT
  | t, _, _, 0 => t
  | .nil, _, _, _ + 1 => .nil
  | .node _ _ _ _, _, 0, _ + 1 => .nil
  | .node _ _ x y, b, r + 1, k + 1 => if b / 2 ^ r % 2 = 0 then asub x b r k else asub y b r k
def arepl : AT → Nat → Nat → Nat → AT → AT
  | _, _, _, 0, s => s
  | .nil, _, _, _ + 1, _ => .nil
  | .node a tv x y, _, 0, _ + 1, _ => .node a tv x y
  | .node a tv x y, b, r + 1, k + 1, s => if b / 2 ^ r % 2 = 0 then .node a tv (arepl x b r k s) y else .node a tv x (arepl y b r k s)
theorem asub_zero (t : AT) (b r : Nat) : asub t b r 0 = t := by cases t <;> cases r <;> rfl
theorem arepl_zero (t s : AT) (b r : Nat) : arepl t b r 0 s = s := by cases t <;> cases r <;> rfl
theorem asub_nil (b r k : Nat) : asub .nil b r k = .nil := by cases k <;> rfl
theorem shape_isNil (t : AT) : t.shape.isNil = t.isNil := by cases t <;> rfl
theorem asub_shape : ∀ (t : AT) (b r k : Nat), (asub t b r k).shape = sub t.shape b r k
  | t, b, r, 0 => by rw [asub_zero, sub_zero]
  | .nil, b, r, k + 1 => rfl
  | .node a tv x y, b, 0, k + 1 => rfl
  | .node a tv x y, b, r + 1, k + 1 => by
    show (if b / 2 ^ r % 2 = 0 then asub x b r k else asub y b r k).shape = if b / 2 ^ r % 2 = 0 then sub x.shape b r k else sub y.shape b r k
    split
    · exact asub_shape x b r k
    · exact asub_shape y b r k
theorem asub_step : ∀ (k r : Nat) (t : AT) (b : Nat) {a : Nat} {tv : Int} {x y : AT}, k < r → asub t b r k = .node a tv x y → asub t b r (k + 1) = if b / 2 ^ (r - 1 - k) % 2 = 0 then x else y
  | 0, r + 1, t, b, a, tv, x, y, _, h => by
    rw [asub_zero] at h
    subst h
    show (if b / 2 ^ r % 2 = 0 then asub x b r 0 else asub y b r 0) = _
    rw [asub_zero, asub_zero]
    rfl
  | k + 1, r + 1, t, b, a, tv, x, y, hk, h => by
    cases t with
    | nil => rw [asub_nil] at h; cases h
    | node a' tv' x' y' =>
      have h : (if b / 2 ^ r % 2 = 0 then asub x' b r k else asub y' b r k) = .node a tv x y := h
      show (if b / 2 ^ r % 2 = 0 then asub x' b r (k + 1) else asub y' b r (k + 1)) = _
      rw [show r + 1 - 1 - (k + 1) = r - 1 - k by omega]
      split at h
      · rw [if_pos (by assumption)]; exact asub_step k r x' b (by omega) h
      · rw [if_neg (by assumption)]; exact asub_step k r y' b (by omega) h
theorem spl_appL {x : HA} : ∀ {l l' : List HA} (r : List HA), Spl l x l' → Spl (l ++ r) x (l' ++ r)
  | _, _, r, .hd => .hd
  | _, _, r, .tl h => .tl (spl_appL r h)
theorem spl_appR {x : HA} : ∀ (l : List HA) {r r' : List HA}, Spl r x r' → Spl (l ++ r) x (l ++ r')
  | [], _, _, h => h
  | _ :: l, _, _, h => .tl (spl_appR l h)
theorem asub_spl : ∀ (k r : Nat) (t : AT) (b : Nat) {a : Nat} {tv : Int} {x y : AT}, asub t b r k = .node a tv x y → ∃ rest, Spl t.heap (.box a (ndC tv x y)) rest
  | 0, r, t, b, a, tv, x, y, h => by
    rw [asub_zero] at h
    subst h
    exact ⟨_, .hd⟩
  | k + 1, 0, t, b, a, tv, x, y, h => by cases t <;> cases h
  | k + 1, r + 1, t, b, a, tv, x, y, h => by
    cases t with
    | nil => rw [asub_nil] at h; cases h
    | node a' tv' x' y' =>
      have h : (if b / 2 ^ r % 2 = 0 then asub x' b r k else asub y' b r k) = .node a tv x y := h
      split at h
      · obtain ⟨rest, hs⟩ := asub_spl k r x' b h
        exact ⟨_, .tl (spl_appL _ hs)⟩
      · obtain ⟨rest, hs⟩ := asub_spl k r y' b h
        exact ⟨_, .tl (spl_appR _ hs)⟩
theorem arepl_ptr : ∀ (k r : Nat) (t s : AT) (b : Nat), (asub t b r k).isNil = false → s.ptr = (asub t b r k).ptr → (arepl t b r k s).ptr = t.ptr
  | 0, r, t, s, b, _, h => by rw [arepl_zero, h, asub_zero]
  | k + 1, 0, t, s, b, hn, h => by cases t <;> cases hn
  | k + 1, r + 1, t, s, b, hn, h => by
    cases t with
    | nil => rw [asub_nil] at hn; cases hn
    | node a tv x y =>
      show (if b / 2 ^ r % 2 = 0 then AT.node a tv (arepl x b r k s) y else .node a tv x (arepl y b r k s)).ptr = _
      split <;> rfl
/-- A part of a tree and the rest. -/
theorem tree_ctx : ∀ (k r : Nat) (t : AT) (b : Nat), (asub t b r k).isNil = false → ∃ c, t.heap.Perm ((asub t b r k).heap ++ c) ∧ ∀ s : AT, s.ptr = (asub t b r k).ptr → (arepl t b r k s).heap.Perm (s.heap ++ c)
  | 0, r, t, b, _ => ⟨[], by rw [asub_zero]; simp, fun s _ => by rw [arepl_zero]; simp⟩
  | k + 1, 0, t, b, hn => by cases t <;> cases hn
  | k + 1, r + 1, t, b, hn => by
    cases t with
    | nil => rw [asub_nil] at hn; cases hn
    | node a tv x y =>
      have e : asub (.node a tv x y) b (r + 1) (k + 1) = if b / 2 ^ r % 2 = 0 then asub x b r k else asub y b r k := rfl
      have e2 : ∀ s, arepl (.node a tv x y) b (r + 1) (k + 1) s = if b / 2 ^ r % 2 = 0 then .node a tv (arepl x b r k s) y else .node a tv x (arepl y b r k s) := fun s => rfl
      simp only [e2]
      rw [e] at hn ⊢
      by_cases hb : b / 2 ^ r % 2 = 0
      · simp only [if_pos hb] at hn ⊢
        obtain ⟨c, h1, h2⟩ := tree_ctx k r x b hn
        refine ⟨.box a (ndC tv x y) :: (c ++ y.heap), ?_, fun s hs => ?_⟩
        · refine ((h1.append_right y.heap).cons _).trans ?_
          rw [List.append_assoc]
          exact List.perm_middle.symm
        · have hp := arepl_ptr k r x s b hn hs
          show (HA.box a (ndC tv (arepl x b r k s) y) :: ((arepl x b r k s).heap ++ y.heap)).Perm _
          rw [show ndC tv (arepl x b r k s) y = ndC tv x y by simp only [ndC, hp]]
          refine (((h2 s hs).append_right y.heap).cons _).trans ?_
          rw [List.append_assoc]
          exact List.perm_middle.symm
      · simp only [if_neg hb] at hn ⊢
        obtain ⟨c, h1, h2⟩ := tree_ctx k r y b hn
        have key : ∀ (sh q : List HA), q.Perm (sh ++ c) → (HA.box a (ndC tv x y) :: (x.heap ++ q)).Perm (sh ++ (.box a (ndC tv x y) :: (c ++ x.heap))) := fun sh q hq => by
          refine (((hq.append_left x.heap).cons _)).trans ?_
          refine List.Perm.trans (List.Perm.cons _ (List.perm_append_comm.trans (by rw [List.append_assoc]))) ?_
          exact List.perm_middle.symm
        refine ⟨.box a (ndC tv x y) :: (c ++ x.heap), key _ _ h1, fun s hs => ?_⟩
        have hp := arepl_ptr k r y s b hn hs
        show (HA.box a (ndC tv x (arepl y b r k s)) :: (x.heap ++ (arepl y b r k s).heap)).Perm _
        rw [show ndC tv x (arepl y b r k s) = ndC tv x y by simp only [ndC, hp]]
        exact key _ _ (h2 s hs)
def repl : PT → Nat → Nat → Nat → PT → PT
  | _, _, _, 0, s => s
  | .nil, _, _, _ + 1, _ => .nil
  | .node tv x y, _, 0, _ + 1, _ => .node tv x y
  | .node tv x y, b, r + 1, k + 1, s => if b / 2 ^ r % 2 = 0 then .node tv (repl x b r k s) y else .node tv x (repl y b r k s)
theorem arepl_shape : ∀ (k r : Nat) (t s : AT) (b : Nat), (arepl t b r k s).shape = repl t.shape b r k s.shape
  | 0, r, t, s, b => by rw [arepl_zero]; cases t <;> cases r <;> rfl
  | k + 1, 0, t, s, b => by cases t <;> rfl
  | k + 1, r + 1, t, s, b => by
    cases t with
    | nil => rfl
    | node a tv x y =>
      show (if b / 2 ^ r % 2 = 0 then AT.node a tv (arepl x b r k s) y else .node a tv x (arepl y b r k s)).shape = if b / 2 ^ r % 2 = 0 then PT.node tv (repl x.shape b r k s.shape) y.shape else .node tv x.shape (repl y.shape b r k s.shape)
      split
      · simp only [AT.shape, arepl_shape k r x s b]
      · simp only [AT.shape, arepl_shape k r y s b]
theorem put_nil (b : Nat) (v : Int) : ∀ (k r : Nat), k ≤ r → put .nil b r k v = put (.node 0 .nil .nil) b r k v
  | 0, r, _ => by rw [put_zero, put_zero]; rfl
  | k + 1, r + 1, h => by rw [put_succ, put_succ]; rfl
/-- An empty node laid on the way changes nothing of what is put. -/
theorem put_lay {v : Int} {b : Nat} : ∀ (i r k : Nat) (t : PT) (tv : Int) (x y : PT), i < k → k ≤ r → sub t b r i = .node tv x y → (sub t b r (i + 1)).isNil = true →
    put (repl t b r i (if b / 2 ^ (r - 1 - i) % 2 = 0 then .node tv (.node 0 .nil .nil) y else .node tv x (.node 0 .nil .nil))) b r k v = put t b r k v
  | i, 0, k, t, tv, x, y, h1, h2, _, _ => by omega
  | 0, r + 1, k + 1, t, tv, x, y, _, hr, hs, hn => by
    rw [sub_zero] at hs
    subst hs
    have hrep : ∀ s, repl (.node tv x y) b (r + 1) 0 s = s := fun s => rfl
    rw [hrep, show r + 1 - 1 - 0 = r by omega]
    have hn : (if b / 2 ^ r % 2 = 0 then sub x b r 0 else sub y b r 0).isNil = true := hn
    rw [sub_zero, sub_zero] at hn
    rw [put_succ, put_succ]
    by_cases hb : b / 2 ^ r % 2 = 0
    · simp only [if_pos hb] at hn ⊢
      have : x = .nil := by cases x with | nil => rfl | node _ _ _ => cases hn
      subst this
      simp only [PT.tv, PT.l, PT.r]
      rw [put_nil b v k r (by omega)]
    · simp only [if_neg hb] at hn ⊢
      have : y = .nil := by cases y with | nil => rfl | node _ _ _ => cases hn
      subst this
      simp only [PT.tv, PT.l, PT.r]
      rw [put_nil b v k r (by omega)]
  | i + 1, r + 1, k + 1, t, tv, x, y, hi, hr, hs, hn => by
    cases t with
    | nil => cases hs
    | node t0 t1 t2 =>
      have hs : (if b / 2 ^ r % 2 = 0 then sub t1 b r i else sub t2 b r i) = .node tv x y := hs
      have hn : (if b / 2 ^ r % 2 = 0 then sub t1 b r (i + 1) else sub t2 b r (i + 1)).isNil = true := hn
      rw [show r + 1 - 1 - (i + 1) = r - 1 - i by omega]
      have e : ∀ s, repl (.node t0 t1 t2) b (r + 1) (i + 1) s = if b / 2 ^ r % 2 = 0 then .node t0 (repl t1 b r i s) t2 else .node t0 t1 (repl t2 b r i s) := fun s => rfl
      rw [e, put_succ, put_succ]
      by_cases hb : b / 2 ^ r % 2 = 0
      · simp only [if_pos hb] at hs hn ⊢
        simp only [PT.tv, PT.l, PT.r]
        rw [put_lay i r k t1 tv x y (by omega) (by omega) hs hn]
      · simp only [if_neg hb] at hs hn ⊢
        simp only [PT.tv, PT.l, PT.r]
        rw [put_lay i r k t2 tv x y (by omega) (by omega) hs hn]
theorem put_end {v : Int} {b : Nat} : ∀ (k r : Nat) (t : PT) (tv : Int) (x y : PT), k ≤ r → sub t b r k = .node tv x y → repl t b r k (.node v x y) = put t b r k v
  | 0, r, t, tv, x, y, _, hs => by
    rw [sub_zero] at hs
    subst hs
    rw [put_zero]
    cases r <;> rfl
  | k + 1, r + 1, t, tv, x, y, hr, hs => by
    cases t with
    | nil => cases hs
    | node t0 t1 t2 =>
      have hs : (if b / 2 ^ r % 2 = 0 then sub t1 b r k else sub t2 b r k) = .node tv x y := hs
      rw [put_succ]
      show (if b / 2 ^ r % 2 = 0 then PT.node t0 (repl t1 b r k _) t2 else .node t0 t1 (repl t2 b r k _)) = _
      by_cases hb : b / 2 ^ r % 2 = 0
      · simp only [if_pos hb] at hs ⊢
        rw [put_end k r t1 tv x y (by omega) hs]; rfl
      · simp only [if_neg hb] at hs ⊢
        rw [put_end k r t2 tv x y (by omega) hs]; rfl

end A
end Go.Proofs.Ytkgemkadebgeoaa
