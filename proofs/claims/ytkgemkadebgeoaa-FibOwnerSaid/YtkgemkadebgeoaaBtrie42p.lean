/- What functions of the program compute: trie42p -/
import Derived.Test.YtkgemkadebgeoaaFacts
import Derived.Test.YtkgemkadebgeoaaProg
import Derived.KernelRfl
set_option linter.unusedVariables false
set_option linter.unusedSimpArgs false
namespace Go.Proofs.Ytkgemkadebgeoaa
namespace A

structure Ent where
  b : Nat
  n : Nat
  tv : Int
  deriving DecidableEq
/-- A tree of bits; where it leads. -/
inductive PT where
  | nil
  | node (tv : Int) (l r : PT)
def PT.tv : PT → Int
  | .nil => 0
  | .node t _ _ => t
def PT.l : PT → PT
  | .nil => .nil
  | .node _ x _ => x
def PT.r : PT → PT
  | .nil => .nil
  | .node _ _ x => x
def one (tv : Int) (B r : Nat) : List Ent := if tv = 0 then [] else [⟨B, 32 - r, tv⟩]
/-- All that is below a node with r bits left, whose prefix is B. -/
def allT : PT → Nat → Nat → List Ent
  | .nil, _, _ => []
  | .node tv _ _, B, 0 => one tv B 0
  | .node tv x y, B, r + 1 => one tv B (r + 1) ++ allT x B r ++ allT y (B + 2 ^ r) r
def sub : PT → Nat → Nat → Nat → PT
  | t, _, _, 0 => t
  | .nil, _, _, _ + 1 => .nil
  | .node _ _ _, _, 0, _ + 1 => .nil
  | .node _ x y, b, r + 1, k + 1 => if b / 2 ^ r % 2 = 0 then sub x b r k else sub y b r k
def put : PT → Nat → Nat → Nat → Int → PT
  | t, _, _, 0, v => .node v t.l t.r
  | t, _, 0, _ + 1, _ => t
  | t, b, r + 1, k + 1, v => if b / 2 ^ r % 2 = 0 then .node t.tv (put t.l b r k v) t.r else .node t.tv t.l (put t.r b r k v)
def PT.isNil : PT → Bool
  | .nil => true
  | _ => false
def prune (t : PT) : PT := if t.tv = 0 ∧ t.l.isNil = true ∧ t.r.isNil = true then .nil else t
def dropT : PT → Nat → Nat → Nat → PT
  | .nil, _, _, _ => .nil
  | .node _ x y, _, _, 0 => prune (.node 0 x y)
  | .node tv x y, _, 0, _ + 1 => .node tv x y
  | .node tv x y, b, r + 1, k + 1 => if b / 2 ^ r % 2 = 0 then prune (.node tv (dropT x b r k) y) else prune (.node tv x (dropT y b r k))
def cutN (a r : Nat) : Nat := a / 2 ^ r * 2 ^ r
def upE (tv : Int) (a r : Nat) (best : Ent) : Ent := if tv = 0 then best else ⟨cutN a r, 32 - r, tv⟩
def findT : PT → Nat → Nat → Ent → Ent
  | .nil, _, _, best => best
  | .node tv _ _, a, 0, best => upE tv a 0 best
  | .node tv x y, a, r + 1, best => if a / 2 ^ r % 2 = 0 then findT x a r (upE tv a (r + 1) best) else findT y a r (upE tv a (r + 1) best)

def aheadE (x e : Ent) : Bool := decide (x.b < e.b) || (x.b == e.b && decide (x.n < e.n))
def sameP (x e : Ent) : Bool := x.b == e.b && x.n == e.n
def putAux : Bool → List Ent → Ent → List Ent
  | d, [], e => if d then [] else [e]
  | d, x :: l, e => (if !d && !aheadE x e then [e] else []) ++ ((if sameP x e then [] else [x]) ++ putAux (d || !aheadE x e) l e)
def refPut (l : List Ent) (e : Ent) : List Ent := putAux (e.tv == 0) l e
def refGet (l : List Ent) (b n : Nat) : Int := match l with
  | [] => 0
  | x :: t => if x.b = b ∧ x.n = n then x.tv else refGet t b n
def within (e : Ent) (a : Nat) : Bool := e.b / 2 ^ (32 - e.n) == a / 2 ^ (32 - e.n)
def refFind : List Ent → Nat → Ent → Ent
  | [], _, best => best
  | x :: l, a, best => refFind l a (if within x a && (best.tv == 0 || decide (best.n < x.n)) then x else best)

/-- An entry's place: within the block of 2^r from B on, no shorter than the block's own prefix. -/
def InB (B r : Nat) (e : Ent) : Prop := ∃ j, j ≤ r ∧ e.n = 32 - j ∧ e.b % 2 ^ j = 0 ∧ B ≤ e.b ∧ e.b + 2 ^ j ≤ B + 2 ^ r ∧ e.tv ≠ 0
theorem two_pos (r : Nat) : 0 < 2 ^ r := Nat.pow_pos (by decide)
theorem pow_s (r : Nat) : 2 ^ (r + 1) = 2 * 2 ^ r := by rw [Nat.pow_succ, Nat.mul_comm]
theorem InB.left {B r : Nat} {e : Ent} (h : InB B r e) : InB B (r + 1) e := by
  obtain ⟨j, h1, h2, h3, h4, h5, h6⟩ := h
  exact ⟨j, by omega, h2, h3, h4, by rw [pow_s]; omega, h6⟩
theorem InB.right {B r : Nat} {e : Ent} (h : InB (B + 2 ^ r) r e) : InB B (r + 1) e := by
  obtain ⟨j, h1, h2, h3, h4, h5, h6⟩ := h
  exact ⟨j, by omega, h2, h3, by omega, by rw [pow_s]; omega, h6⟩
theorem allT_step (t : PT) (B r : Nat) : allT t B (r + 1) = one t.tv B (r + 1) ++ (allT t.l B r ++ allT t.r (B + 2 ^ r) r) := by
  cases t with
  | nil => simp [PT.tv, PT.l, PT.r, one, allT]
  | node tv x y => simp [PT.tv, PT.l, PT.r, allT]
theorem allT_zero (t : PT) (B : Nat) : allT t B 0 = one t.tv B 0 := by
  cases t with
  | nil => simp [PT.tv, one, allT]
  | node tv x y => rfl
theorem one_mem {tv : Int} {B r : Nat} {e : Ent} (h : e ∈ one tv B r) : e = ⟨B, 32 - r, tv⟩ ∧ tv ≠ 0 := by
  unfold one at h
  split at h
  · simp at h
  · exact ⟨by simpa using h, by assumption⟩
theorem mod_left {B r : Nat} (h : B % 2 ^ (r + 1) = 0) : B % 2 ^ r = 0 := by
  rw [pow_s] at h
  have h1 : B = 2 * 2 ^ r * (B / (2 * 2 ^ r)) := (Nat.mul_div_cancel' (Nat.dvd_of_mod_eq_zero h)).symm
  rw [h1, Nat.mul_comm 2, Nat.mul_assoc]
  exact Nat.mul_mod_right _ _
theorem mod_right {B r : Nat} (h : B % 2 ^ (r + 1) = 0) : (B + 2 ^ r) % 2 ^ r = 0 := by rw [Nat.add_mod_right]; exact mod_left h
theorem allT_in : ∀ (r : Nat) (t : PT) (B : Nat), r ≤ 32 → B % 2 ^ r = 0 → ∀ e ∈ allT t B r, InB B r e
  | 0, t, B, _, _, e, he => by
    rw [allT_zero] at he
    obtain ⟨rfl, h⟩ := one_mem he
    exact ⟨0, Nat.le_refl _, rfl, by simp [Nat.mod_one], Nat.le_refl _, Nat.le_refl _, h⟩
  | r + 1, t, B, hr, hB, e, he => by
    rw [allT_step] at he
    rcases List.mem_append.1 he with he | he
    · obtain ⟨rfl, h⟩ := one_mem he
      exact ⟨r + 1, Nat.le_refl _, rfl, hB, Nat.le_refl _, Nat.le_refl _, h⟩
    · rcases List.mem_append.1 he with he | he
      · exact (allT_in r t.l B (by omega) (mod_left hB) e he).left
      · exact (allT_in r t.r (B + 2 ^ r) (by omega) (mod_right hB) e he).right
theorem bit_of {b B r : Nat} (hB : B % 2 ^ (r + 1) = 0) (h1 : B ≤ b) (h2 : b < B + 2 ^ (r + 1)) : (b / 2 ^ r % 2 = 0 ∧ b < B + 2 ^ r) ∨ (b / 2 ^ r % 2 = 1 ∧ B + 2 ^ r ≤ b) := by
  rw [pow_s] at hB h2
  have hp := two_pos r
  have e1 : B = 2 ^ r * (2 * (B / (2 * 2 ^ r))) := by
    have := (Nat.mul_div_cancel' (Nat.dvd_of_mod_eq_zero hB)).symm
    rw [Nat.mul_comm 2 (2 ^ r), Nat.mul_assoc] at this
    rw [Nat.mul_comm 2 (2 ^ r)]
    exact this
  generalize B / (2 * 2 ^ r) = q at e1
  generalize 2 ^ r = p at *
  obtain ⟨c, rfl⟩ : ∃ c, b = p * (2 * q) + c := ⟨b - B, by omega⟩
  rw [Nat.mul_add_div hp]
  by_cases hc : c < p
  · left
    rw [Nat.div_eq_of_lt hc]
    omega
  · right
    have : c / p = 1 := by
      rw [Nat.div_eq_of_lt_le] <;> omega
    rw [this]
    omega

theorem putAux_front {e : Ent} : ∀ {xs ys : List Ent} {d : Bool}, (∀ x ∈ xs, aheadE x e = true ∧ sameP x e = false) → putAux d (xs ++ ys) e = xs ++ putAux d ys e
  | [], _, _, _ => rfl
  | x :: xs, ys, d, h => by
    obtain ⟨h1, h2⟩ := h x (by simp)
    simp only [List.cons_append, putAux, h1, h2, Bool.not_true, Bool.and_false, Bool.or_false, Bool.false_eq_true, if_false, List.nil_append]
    rw [putAux_front (fun y hy => h y (by simp [hy]))]
theorem putAux_true {e : Ent} : ∀ {ys : List Ent}, (∀ y ∈ ys, sameP y e = false) → putAux true ys e = ys
  | [], _ => rfl
  | y :: ys, h => by
    simp only [putAux, h y (by simp), Bool.not_true, Bool.false_and, Bool.true_or, Bool.false_eq_true, if_false, List.nil_append, List.cons_append]
    rw [putAux_true (fun z hz => h z (by simp [hz]))]
theorem putAux_back {e : Ent} : ∀ {xs ys : List Ent} {d : Bool}, (∀ y ∈ ys, aheadE y e = false ∧ sameP y e = false) → putAux d (xs ++ ys) e = putAux d xs e ++ ys
  | [], [], d, _ => by simp
  | [], y :: ys, d, h => by
    obtain ⟨h1, h2⟩ := h y (by simp)
    cases d with
    | true =>
      rw [List.nil_append, putAux_true (fun z hz => (h z hz).2)]
      rfl
    | false =>
      simp only [List.nil_append, putAux, h1, h2, Bool.not_false, Bool.and_true, Bool.or_true, if_true, Bool.false_eq_true, if_false]
      rw [putAux_true (fun z hz => (h z (by simp [hz])).2)]
      rfl
  | x :: xs, ys, d, h => by
    simp only [List.cons_append, putAux]
    rw [putAux_back h]
    simp [List.append_assoc]
theorem ahead_of {x e : Ent} (h : x.b < e.b ∨ (x.b = e.b ∧ x.n < e.n)) : aheadE x e = true ∧ sameP x e = false := by
  simp only [aheadE, sameP, Bool.or_eq_true, Bool.and_eq_true, decide_eq_true_eq, beq_iff_eq]
  refine ⟨h, ?_⟩
  rw [Bool.eq_false_iff]
  simp only [ne_eq, Bool.and_eq_true, beq_iff_eq]
  omega
theorem behind_of {x e : Ent} (h : e.b < x.b ∨ (x.b = e.b ∧ e.n < x.n)) : aheadE x e = false ∧ sameP x e = false := by
  constructor
  · rw [Bool.eq_false_iff]
    simp only [aheadE, ne_eq, Bool.or_eq_true, Bool.and_eq_true, decide_eq_true_eq, beq_iff_eq]
    omega
  · rw [Bool.eq_false_iff]
    simp only [sameP, ne_eq, Bool.and_eq_true, beq_iff_eq]
    omega
/-- What a change at a place does tv all below a node: d: nothing is put. -/
theorem all_change {f : PT → Nat → Nat → Nat → PT} {d : Bool} {v : Int}
    (h0 : ∀ t B r, allT (f t B r 0) B r = (if d then [] else [⟨B, 32 - r, v⟩]) ++ (allT t B r).drop (one t.tv B r).length)
    (h1 : ∀ t b B r k, r < 32 → B % 2 ^ (r + 1) = 0 → k ≤ r → b / 2 ^ r % 2 = 0 → allT (f t b (r + 1) (k + 1)) B (r + 1) = one t.tv B (r + 1) ++ (allT (f t.l b r k) B r ++ allT t.r (B + 2 ^ r) r))
    (h2 : ∀ t b B r k, r < 32 → B % 2 ^ (r + 1) = 0 → k ≤ r → b / 2 ^ r % 2 = 1 → allT (f t b (r + 1) (k + 1)) B (r + 1) = one t.tv B (r + 1) ++ (allT t.l B r ++ allT (f t.r b r k) (B + 2 ^ r) r)) :
    ∀ (r : Nat) (t : PT) (b B k : Nat), r ≤ 32 → B % 2 ^ r = 0 → k ≤ r → b % 2 ^ (r - k) = 0 → B ≤ b → b < B + 2 ^ r → allT (f t b r k) B r = putAux d (allT t B r) ⟨b, 32 - (r - k), v⟩ := by
  intro r
  induction r with
  | zero =>
    intro t b B k hr hB hk hb hB1 hB2
    obtain rfl : k = 0 := by omega
    obtain rfl : b = B := by simp at hB2; omega
    rw [h0, allT_zero]
    by_cases ht : t.tv = 0 <;> cases d <;> simp [one, ht, putAux, aheadE, sameP]
  | succ r ih =>
    intro t b B k hr hB hk hb hB1 hB2
    have hp := two_pos r
    cases k with
    | zero =>
      obtain rfl : b = B := by
        have e1 := Nat.div_add_mod b (2 ^ (r + 1))
        have e2 := Nat.div_add_mod B (2 ^ (r + 1))
        rw [Nat.sub_zero] at hb
        rw [hb] at e1
        rw [hB] at e2
        have : b / 2 ^ (r + 1) = B / 2 ^ (r + 1) := by
          have hpp := two_pos (r + 1)
          apply Nat.le_antisymm
          · apply Nat.le_of_lt_succ
            rw [Nat.div_lt_iff_lt_mul hpp, Nat.succ_mul]
            rw [Nat.mul_comm] at e2
            omega
          · exact Nat.div_le_div_right hB1
        rw [this] at e1
        omega
      have hrest : ∀ e ∈ (allT t.l b r ++ allT t.r (b + 2 ^ r) r), aheadE e ⟨b, 32 - (r + 1 - 0), v⟩ = false ∧ sameP e ⟨b, 32 - (r + 1 - 0), v⟩ = false := fun e he => by
        apply behind_of
        rcases List.mem_append.1 he with he | he
        · obtain ⟨j, a1, a2, a3, a4, a5, a6⟩ := allT_in r t.l b (by omega) (mod_left hB) e he
          show b < e.b ∨ (e.b = b ∧ 32 - (r + 1 - 0) < e.n)
          omega
        · obtain ⟨j, a1, a2, a3, a4, a5, a6⟩ := allT_in r t.r (b + 2 ^ r) (by omega) (mod_right hB) e he
          left
          show b < e.b
          omega
      rw [h0, allT_step, List.drop_left, putAux_back hrest]
      congr 1
      by_cases ht : t.tv = 0 <;> cases d <;> simp [one, ht, putAux, aheadE, sameP]
    | succ k =>
      have hone : ∀ e ∈ one t.tv B (r + 1), aheadE e ⟨b, 32 - (r + 1 - (k + 1)), v⟩ = true ∧ sameP e ⟨b, 32 - (r + 1 - (k + 1)), v⟩ = false := fun e he => by
        obtain ⟨rfl, _⟩ := one_mem he
        apply ahead_of
        show B < b ∨ (B = b ∧ 32 - (r + 1) < 32 - (r + 1 - (k + 1)))
        omega
      have hek : 32 - (r + 1 - (k + 1)) = 32 - (r - k) := by omega
      rcases bit_of hB hB1 hB2 with ⟨hbit, hlt⟩ | ⟨hbit, hge⟩
      · rw [h1 t b B r k (by omega) hB (by omega) hbit, allT_step, putAux_front hone, putAux_back (xs := allT t.l B r) (fun e he => ?_), hek, ← ih t.l b B k (by omega) (mod_left hB) (by omega) (by rw [show r - k = r + 1 - (k + 1) by omega]; exact hb) hB1 hlt]
        obtain ⟨j, a1, a2, a3, a4, a5, a6⟩ := allT_in r t.r (B + 2 ^ r) (by omega) (mod_right hB) e he
        apply behind_of
        left
        show b < e.b
        omega
      · rw [h2 t b B r k (by omega) hB (by omega) hbit, allT_step, putAux_front hone, putAux_front (xs := allT t.l B r) (fun e he => ?_), hek, ← ih t.r b (B + 2 ^ r) k (by omega) (mod_right hB) (by omega) (by rw [show r - k = r + 1 - (k + 1) by omega]; exact hb) hge (by rw [pow_s] at hB2; omega)]
        obtain ⟨j, a1, a2, a3, a4, a5, a6⟩ := allT_in r t.l B (by omega) (mod_left hB) e he
        apply ahead_of
        left
        have := two_pos j
        show e.b < b
        omega

theorem one_node {v : Int} {B r : Nat} (h : v ≠ 0) : one v B r = [⟨B, 32 - r, v⟩] := by unfold one; rw [if_neg h]
theorem put_zero (t : PT) (b r : Nat) (v : Int) : put t b r 0 v = .node v t.l t.r := by cases r <;> rfl
theorem put_succ (t : PT) (b r k : Nat) (v : Int) : put t b (r + 1) (k + 1) v = if b / 2 ^ r % 2 = 0 then .node t.tv (put t.l b r k v) t.r else .node t.tv t.l (put t.r b r k v) := rfl
theorem all_put {t : PT} {b k : Nat} {v : Int} (hv : v ≠ 0) (hk : k ≤ 32) (hb : b % 2 ^ (32 - k) = 0) (hb2 : b < 2 ^ 32) : allT (put t b 32 k v) 0 32 = refPut (allT t 0 32) ⟨b, k, v⟩ := by
  have := all_change (f := fun t b r k => put t b r k v) (d := false) (v := v) (fun t B r => by
      rw [put_zero]
      cases r with
      | zero => rw [allT_zero, allT_zero, List.drop_length, List.append_nil]; exact one_node hv
      | succ r => rw [allT_step, allT_step, List.drop_left]; simp only [PT.tv, PT.l, PT.r, one_node hv]; rfl)
    (fun t b B r k _ _ _ hbit => by simp only [put_succ]; rw [if_pos hbit, allT_step]; rfl)
    (fun t b B r k _ _ _ hbit => by simp only [put_succ]; rw [if_neg (by omega), allT_step]; rfl) 32 t b 0 k (Nat.le_refl _) (Nat.zero_mod _) hk hb (Nat.zero_le _) (by omega)
  rw [this, refPut]
  have hz : (v == 0) = false := by simpa using hv
  simp only [hz]
  rw [show 32 - (32 - k) = k by omega]
theorem prune_all (t : PT) (B r : Nat) : allT (prune t) B r = allT t B r := by
  unfold prune
  split
  · rename_i h
    obtain ⟨h1, h2, h3⟩ := h
    have e2 : t.l = .nil := by cases hq : t.l with | nil => rfl | node a b c => rw [hq] at h2; cases h2
    have e3 : t.r = .nil := by cases hq : t.r with | nil => rfl | node a b c => rw [hq] at h3; cases h3
    cases r with
    | zero => rw [allT_zero, allT_zero, h1]; rfl
    | succ r => rw [allT_step t, h1, e2, e3]; rfl
  · rfl
theorem all_dropT {t : PT} {b k : Nat} (hk : k ≤ 32) (hb : b % 2 ^ (32 - k) = 0) (hb2 : b < 2 ^ 32) : allT (dropT t b 32 k) 0 32 = refPut (allT t 0 32) ⟨b, k, 0⟩ := by
  have := all_change (f := dropT) (d := true) (v := 0) (fun t B r => by
      cases t with
      | nil => cases r <;> simp [dropT, allT]
      | node tv x y =>
        show allT (dropT (.node tv x y) B r 0) B r = _
        rw [show dropT (.node tv x y) B r 0 = prune (.node 0 x y) by cases r <;> rfl, prune_all]
        cases r with
        | zero => rw [allT_zero, allT_zero, List.drop_length]; rfl
        | succ r => rw [allT_step, allT_step, List.drop_left]; rfl)
    (fun t b B r k _ _ _ hbit => by
      cases t with
      | nil => rfl
      | node tv x y =>
        show allT (if b / 2 ^ r % 2 = 0 then prune (.node tv (dropT x b r k) y) else prune (.node tv x (dropT y b r k))) B (r + 1) = _
        rw [if_pos hbit, prune_all, allT_step]; rfl)
    (fun t b B r k _ _ _ hbit => by
      cases t with
      | nil => rfl
      | node tv x y =>
        show allT (if b / 2 ^ r % 2 = 0 then prune (.node tv (dropT x b r k) y) else prune (.node tv x (dropT y b r k))) B (r + 1) = _
        rw [if_neg (by omega), prune_all, allT_step]; rfl) 32 t b 0 k (Nat.le_refl _) (Nat.zero_mod _) hk hb (Nat.zero_le _) (by omega)
  rw [this, refPut]
  simp only [beq_self_eq_true]
  rw [show 32 - (32 - k) = k by omega]
theorem refGet_front {b n : Nat} : ∀ {xs ys : List Ent}, (∀ x ∈ xs, ¬ (x.b = b ∧ x.n = n)) → refGet (xs ++ ys) b n = refGet ys b n
  | [], _, _ => rfl
  | x :: xs, ys, h => by rw [List.cons_append, refGet, if_neg (h x (by simp))]; exact refGet_front (fun y hy => h y (by simp [hy]))
theorem refGet_back {b n : Nat} : ∀ {xs ys : List Ent}, (∀ y ∈ ys, ¬ (y.b = b ∧ y.n = n)) → refGet (xs ++ ys) b n = refGet xs b n
  | [], ys, h => by rw [← List.append_nil ys, List.nil_append, refGet_front h]
  | x :: xs, ys, h => by
    rw [List.cons_append, refGet, refGet, refGet_back h]
theorem sub_zero (t : PT) (b r : Nat) : sub t b r 0 = t := by cases t <;> cases r <;> rfl
theorem sub_succ (t : PT) (b r k : Nat) : sub t b (r + 1) (k + 1) = if b / 2 ^ r % 2 = 0 then sub t.l b r k else sub t.r b r k := by
  cases t with
  | nil =>
    have : ∀ k b r, sub .nil b r k = .nil := fun k b r => by cases k <;> rfl
    simp [PT.l, PT.r, this]
  | node tv x y => rfl
theorem all_sub : ∀ (r : Nat) (t : PT) (b B k : Nat), r ≤ 32 → B % 2 ^ r = 0 → k ≤ r → b % 2 ^ (r - k) = 0 → B ≤ b → b < B + 2 ^ r → refGet (allT t B r) b (32 - (r - k)) = (sub t b r k).tv := by
  intro r
  induction r with
  | zero =>
    intro t b B k hr hB hk hb hB1 hB2
    obtain rfl : k = 0 := by omega
    obtain rfl : b = B := by simp at hB2; omega
    rw [allT_zero, sub_zero]
    unfold one
    split
    · rename_i h; rw [h]; rfl
    · simp [refGet]
  | succ r ih =>
    intro t b B k hr hB hk hb hB1 hB2
    have hp := two_pos r
    rw [allT_step]
    cases k with
    | zero =>
      have hlt : ∀ e ∈ (allT t.l B r ++ allT t.r (B + 2 ^ r) r), ¬ (e.b = b ∧ e.n = 32 - (r + 1 - 0)) := fun e he => by
        rcases List.mem_append.1 he with he | he
        · obtain ⟨j, a1, a2, a3, a4, a5, a6⟩ := allT_in r t.l B (by omega) (mod_left hB) e he
          omega
        · obtain ⟨j, a1, a2, a3, a4, a5, a6⟩ := allT_in r t.r (B + 2 ^ r) (by omega) (mod_right hB) e he
          omega
      obtain rfl : b = B := by
        obtain ⟨q, rfl⟩ : ∃ q, B = 2 ^ (r + 1) * q := ⟨_, (Nat.mul_div_cancel' (Nat.dvd_of_mod_eq_zero hB)).symm⟩
        obtain ⟨p, rfl⟩ : ∃ p, b = 2 ^ (r + 1) * p := ⟨_, (Nat.mul_div_cancel' (Nat.dvd_of_mod_eq_zero hb)).symm⟩
        have h1 : q ≤ p := Nat.le_of_mul_le_mul_left hB1 (two_pos _)
        have h2 : p < q + 1 := Nat.lt_of_mul_lt_mul_left (a := 2 ^ (r + 1)) (by rw [Nat.mul_succ]; exact hB2)
        rw [show p = q by omega]
      rw [refGet_back hlt, sub_zero]
      unfold one
      split
      · rename_i h; rw [h]; rfl
      · simp [refGet]
    | succ k =>
      have hone : ∀ e ∈ one t.tv B (r + 1), ¬ (e.b = b ∧ e.n = 32 - (r + 1 - (k + 1))) := fun e he => by
        obtain ⟨rfl, _⟩ := one_mem he
        show ¬ (B = b ∧ 32 - (r + 1) = 32 - (r + 1 - (k + 1)))
        omega
      rw [refGet_front hone, sub_succ, show 32 - (r + 1 - (k + 1)) = 32 - (r - k) by omega]
      rcases bit_of hB hB1 hB2 with ⟨hbit, hlt⟩ | ⟨hbit, hge⟩
      · rw [if_pos hbit, refGet_back (fun e he => ?_), ih t.l b B k (by omega) (mod_left hB) (by omega) (by rw [show r - k = r + 1 - (k + 1) by omega]; exact hb) hB1 hlt]
        obtain ⟨j, a1, a2, a3, a4, a5, a6⟩ := allT_in r t.r (B + 2 ^ r) (by omega) (mod_right hB) e he
        omega
      · rw [if_neg (by omega), refGet_front (fun e he => ?_), ih t.r b (B + 2 ^ r) k (by omega) (mod_right hB) (by omega) (by rw [show r - k = r + 1 - (k + 1) by omega]; exact hb) hge (by rw [pow_s] at hB2; omega)]
        obtain ⟨j, a1, a2, a3, a4, a5, a6⟩ := allT_in r t.l B (by omega) (mod_left hB) e he
        have := two_pos j
        omega
theorem all_get {t : PT} {b k : Nat} (hk : k ≤ 32) (hb : b % 2 ^ (32 - k) = 0) (hb2 : b < 2 ^ 32) : refGet (allT t 0 32) b k = (sub t b 32 k).tv := by
  have := all_sub 32 t b 0 k (Nat.le_refl _) (Nat.zero_mod _) hk hb (Nat.zero_le _) (by omega)
  rwa [show 32 - (32 - k) = k by omega] at this
theorem div_block {B r a : Nat} (hB : B % 2 ^ r = 0) : B / 2 ^ r = a / 2 ^ r ↔ (B ≤ a ∧ a < B + 2 ^ r) := by
  have hp := two_pos r
  obtain ⟨q, rfl⟩ : ∃ q, B = 2 ^ r * q := ⟨_, (Nat.mul_div_cancel' (Nat.dvd_of_mod_eq_zero hB)).symm⟩
  rw [Nat.mul_div_cancel_left q hp]
  constructor
  · rintro rfl
    have := Nat.div_add_mod a (2 ^ r)
    have := Nat.mod_lt a hp
    omega
  · rintro ⟨h1, h2⟩
    apply Nat.le_antisymm
    · rw [Nat.le_div_iff_mul_le hp, Nat.mul_comm]; exact h1
    · apply Nat.le_of_lt_succ
      rw [Nat.div_lt_iff_lt_mul hp, Nat.succ_mul, Nat.mul_comm]
      exact h2
theorem within_iff {e : Ent} {B r a : Nat} (h : InB B r e) (hr : r ≤ 32) : ∃ j, j ≤ r ∧ e.n = 32 - j ∧ B ≤ e.b ∧ e.b + 2 ^ j ≤ B + 2 ^ r ∧ (within e a = true ↔ (e.b ≤ a ∧ a < e.b + 2 ^ j)) := by
  obtain ⟨j, a1, a2, a3, a4, a5, a6⟩ := h
  refine ⟨j, a1, a2, a4, a5, ?_⟩
  unfold within
  rw [a2, show 32 - (32 - j) = j by omega, beq_iff_eq]
  exact div_block a3
theorem find_out : ∀ (l : List Ent) (B r a : Nat) (best : Ent), r ≤ 32 → (∀ e ∈ l, InB B r e) → ¬ (B ≤ a ∧ a < B + 2 ^ r) → refFind l a best = best
  | [], _, _, _, _, _, _, _ => rfl
  | x :: l, B, r, a, best, hr, h, ha => by
    obtain ⟨j, h1, h2, h3, h4, h5⟩ := within_iff (a := a) (h x (by simp)) hr
    have hw : within x a = false := by
      rw [Bool.eq_false_iff]
      intro hw
      have := h5.1 hw
      omega
    rw [refFind, hw, Bool.false_and]
    exact find_out l B r a best hr (fun e he => h e (by simp [he])) ha
theorem refFind_append : ∀ (xs ys : List Ent) (a : Nat) (best : Ent), refFind (xs ++ ys) a best = refFind ys a (refFind xs a best)
  | [], _, _, _ => rfl
  | x :: xs, ys, a, best => by rw [List.cons_append, refFind, refFind]; exact refFind_append xs ys a _
theorem cutN_block {B r a : Nat} (hB : B % 2 ^ r = 0) (h1 : B ≤ a) (h2 : a < B + 2 ^ r) : cutN a r = B := by
  have := (div_block (a := a) hB).2 ⟨h1, h2⟩
  rw [cutN, ← this, Nat.div_mul_cancel (Nat.dvd_of_mod_eq_zero hB)]
theorem find_one {tv : Int} {B r a : Nat} {best : Ent} (hr : r ≤ 32) (hB : B % 2 ^ r = 0) (h1 : B ≤ a) (h2 : a < B + 2 ^ r) (hb : best.tv = 0 ∨ best.n < 32 - r) : refFind (one tv B r) a best = upE tv a r best := by
  unfold one upE
  split
  · rfl
  · rw [cutN_block hB h1 h2]
    have hw : within ⟨B, 32 - r, tv⟩ a = true := by
      unfold within
      rw [show 32 - (32 - r) = r by omega, beq_iff_eq]
      exact (div_block hB).2 ⟨h1, h2⟩
    have hc : (best.tv == 0 || decide (best.n < 32 - r)) = true := by simpa using hb
    simp only [refFind, hw, hc, Bool.true_and, if_true]
theorem find_all : ∀ (r : Nat) (t : PT) (B a : Nat) (best : Ent), r ≤ 32 → B % 2 ^ r = 0 → B ≤ a → a < B + 2 ^ r → (best.tv = 0 ∨ best.n < 32 - r) → refFind (allT t B r) a best = findT t a r best
  | 0, t, B, a, best, hr, hB, h1, h2, hb => by
    rw [allT_zero, find_one hr hB h1 h2 hb]
    cases t with
    | nil => rfl
    | node tv x y => rfl
  | r + 1, t, B, a, best, hr, hB, h1, h2, hb => by
    have hp := two_pos r
    rw [allT_step, refFind_append, refFind_append, find_one hr hB h1 h2 hb]
    have hb2 : (upE t.tv a (r + 1) best).tv = 0 ∨ (upE t.tv a (r + 1) best).n < 32 - r := by
      unfold upE
      split
      · rcases hb with h | h
        · exact .inl h
        · right; omega
      · right
        show 32 - (r + 1) < 32 - r
        omega
    have key : findT t a (r + 1) best = if a / 2 ^ r % 2 = 0 then findT t.l a r (upE t.tv a (r + 1) best) else findT t.r a r (upE t.tv a (r + 1) best) := by
      cases t with
      | nil => simp [findT, PT.l, PT.r, PT.tv, upE]
      | node tv x y => rfl
    rw [key]
    rcases bit_of hB h1 h2 with ⟨hbit, hlt⟩ | ⟨hbit, hge⟩
    · rw [if_pos hbit, find_all r t.l B a _ (by omega) (mod_left hB) h1 hlt hb2]
      exact find_out _ (B + 2 ^ r) r a _ (by omega) (allT_in r t.r _ (by omega) (mod_right hB)) (by omega)
    · rw [if_neg (by omega), find_out _ B r a _ (by omega) (allT_in r t.l B (by omega) (mod_left hB)) (by omega)]
      exact find_all r t.r (B + 2 ^ r) a _ (by omega) (mod_right hB) hge (by rw [pow_s] at h2; omega) hb2

end A
end Go.Proofs.Ytkgemkadebgeoaa
