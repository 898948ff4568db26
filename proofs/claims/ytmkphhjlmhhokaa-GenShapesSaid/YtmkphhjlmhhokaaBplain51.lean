/- What functions of the program compute: plain51 -/
import Derived.Test.YtmkphhjlmhhokaaBref51
import Derived.Test.YtmkphhjlmhhokaaProg
import Derived.KernelRfl
set_option linter.unusedVariables false
set_option linter.unusedSimpArgs false
namespace Go.Proofs.Ytmkphhjlmhhokaa
namespace A

def ltP (q x : Nat × Nat) : Bool := Nat.blt x.1 q.1 || (Nat.beq x.1 q.1 && Nat.blt x.2 q.2)
def eqP (o : Option (Nat × Nat)) (q : Nat × Nat) : Bool := match o with
  | some x => Nat.beq x.1 q.1 && Nat.beq x.2 q.2
  | none => false
def putP (l : List (Nat × Nat)) (q : Nat × Nat) : List (Nat × Nat) := cond (eqP (l.dropWhile (ltP q)).head? q) l (l.takeWhile (ltP q) ++ q :: l.dropWhile (ltP q))
def stepP (kind n col : Nat) (out : List (Nat × Nat)) (a : Nat) : List (Nat × Nat) :=
  cond (Nat.beq kind 0 || Nat.beq kind 1)
    (let o1 := cond (Nat.blt a n) (putP out (a, a + 1)) out
     cond ((Nat.beq kind 1 && Nat.beq a n) && Nat.ble 3 n) (putP o1 (1, n)) o1)
    (cond (Nat.beq kind 2) (cond (Nat.blt 1 a) (putP out (1, a)) out)
      (cond (Nat.beq kind 3) ((List.range' 1 (a - 1)).foldl (fun o b => putP o (b, a)) out)
        (cond (Nat.beq kind 4)
          (let o1 := cond (Nat.blt ((a - 1) % col + 1) col && Nat.ble (a + 1) n) (putP out (a, a + 1)) out
           cond (Nat.ble (a + col) n) (putP o1 (a, a + col)) o1) out)))
def refP (kind n col m : Nat) : List (Nat × Nat) := (List.range' 1 m).foldl (stepP kind n col) []
theorem wireOf_inj {c : Int} {p q : Nat × Nat} : wireOf c p = wireOf c q ↔ p = q := by
  constructor
  · intro h
    simp only [wireOf, Wire.mk.injEq, true_and, and_true] at h
    exact Prod.ext (by omega) (by omega)
  · rintro rfl; rfl
theorem ltW_map {c : Int} {q x : Nat × Nat} : ltW (wireOf c q) (wireOf c x) = ltP q x := by
  have h1 : ∀ a b : Nat, decide ((a : Int) < b) = Nat.blt a b := fun a b => by rw [Bool.eq_iff_iff, decide_eq_true_iff, Nat.blt_eq]; omega
  have h2 : ∀ a b : Nat, ((a : Int) == b) = Nat.beq a b := fun a b => by rw [Bool.eq_iff_iff, beq_iff_eq, Nat.beq_eq]; omega
  show (decide ((x.1 : Int) < q.1) || (((x.1 : Int) == q.1) && decide ((x.2 : Int) < q.2))) = _
  rw [h1, h1, h2]
  rfl
theorem eqP_iff {o : Option (Nat × Nat)} {q : Nat × Nat} : eqP o q = true ↔ o = some q := by
  cases o with
  | none => simp [eqP]
  | some x => simp only [eqP, Bool.and_eq_true, Nat.beq_eq, Option.some.injEq, Prod.ext_iff]
theorem putW_map {c : Int} {l : List (Nat × Nat)} {q : Nat × Nat} : putW (l.map (wireOf c)) (wireOf c q) = (putP l q).map (wireOf c) := by
  have e : (ltW (wireOf c q)) ∘ (wireOf c) = ltP q := by funext x; exact ltW_map
  unfold putW putP
  rw [List.dropWhile_map, List.takeWhile_map, e, List.head?_map]
  by_cases h : (l.dropWhile (ltP q)).head? = some q
  · rw [if_pos (by rw [h]; rfl), eqP_iff.2 h]; rfl
  · rw [if_neg]
    · have : eqP (l.dropWhile (ltP q)).head? q = false := by
        cases hb : eqP (l.dropWhile (ltP q)).head? q with
        | false => rfl
        | true => exact absurd (eqP_iff.1 hb) h
      rw [this]
      simp
    · intro h2
      simp only [Option.map_eq_some_iff] at h2
      obtain ⟨x, hx, h3⟩ := h2
      exact h (by rw [hx, wireOf_inj.1 h3])
theorem mkW_lt {c : Int} {a b : Nat} (h : a ≤ b) : mkW a b c = wireOf c (a, b) := by rw [mkW, if_neg (by omega)]; rfl
theorem mkW_gt {c : Int} {a b : Nat} (h : b < a) : mkW a b c = wireOf c (b, a) := by rw [mkW, if_pos (by omega)]; rfl
theorem fold_map {c : Int} {a : Nat} : ∀ (bs : List Nat) (o : List (Nat × Nat)), (∀ b ∈ bs, b < a) → bs.foldl (fun o (b : Nat) => putW o (mkW b a c)) (o.map (wireOf c)) = (bs.foldl (fun o b => putP o (b, a)) o).map (wireOf c)
  | [], o, _ => rfl
  | b :: bs, o, h => by
    rw [List.foldl_cons, List.foldl_cons, mkW_lt (by have := h b (by simp); omega), putW_map]
    exact fold_map bs _ (fun x hx => h x (by simp [hx]))
theorem cond_map {c : Int} {b : Bool} {p : Prop} [Decidable p] {x y : List (Nat × Nat)} {x' y' : List Wire} (h : p ↔ b = true) (h1 : b = true → x' = x.map (wireOf c)) (h2 : y' = y.map (wireOf c)) : (if p then x' else y') = (cond b x y).map (wireOf c) := by
  cases hb : b with
  | true => rw [if_pos (h.2 hb)]; exact h1 hb
  | false => rw [if_neg (fun hp => by rw [h.1 hp] at hb; cases hb)]; exact h2
theorem stepS_map {c : Int} {kind n col : Nat} {out : List (Nat × Nat)} {a : Nat} (ha : 1 ≤ a) (hc : kind = 4 → 1 ≤ col) : stepS kind n col c (out.map (wireOf c)) a = (stepP kind n col out a).map (wireOf c) := by
  unfold stepS stepP
  have hput : ∀ o : List (Nat × Nat), putW (o.map (wireOf c)) (mkW a (a + 1) c) = (putP o (a, a + 1)).map (wireOf c) := fun o => by
    rw [← putW_map, ← mkW_lt (by omega)]; rfl
  refine cond_map (by simp only [Bool.or_eq_true, Nat.beq_eq]; omega) (fun hk => ?_) (cond_map (by simp only [Nat.beq_eq]; omega) (fun _ => ?_) (cond_map (by simp only [Nat.beq_eq]; omega) (fun _ => ?_) (cond_map (by simp only [Nat.beq_eq]; omega) (fun hk => ?_) rfl)))
  · dsimp only
    have h1 : (if (a : Int) < n then putW (out.map (wireOf c)) (mkW a (a + 1) c) else out.map (wireOf c)) = (cond (Nat.blt a n) (putP out (a, a + 1)) out).map (wireOf c) := cond_map (by simp only [Nat.blt_eq]; omega) (fun _ => hput out) rfl
    rw [h1]
    refine cond_map (by simp only [Bool.and_eq_true, Nat.beq_eq, Nat.ble_eq]; omega) (fun hh => ?_) rfl
    simp only [Bool.and_eq_true, Nat.beq_eq, Nat.ble_eq] at hh
    rw [← putW_map]
    have := mkW_gt (c := c) (a := n) (b := 1) (by omega)
    rw [← this]; rfl
  · refine cond_map (by simp only [Nat.blt_eq]; omega) (fun hh => ?_) rfl
    simp only [Nat.blt_eq] at hh
    rw [← putW_map, ← mkW_lt (by omega)]; rfl
  · exact fold_map _ _ (fun b hb => by rw [List.mem_range'_1] at hb; omega)
  · have hk4 : kind = 4 := by simpa using hk
    have hcol := hc hk4
    obtain ⟨hq0, hq1, hr0, hr1, hdm, hrow, hq2⟩ := gridQ (a := (a : Int) - 1) (col := col) (by omega) (by omega)
    have hmod : ((a : Int) - 1).tmod col = ((a - 1) % col : Nat) := by
      rw [show (a : Int) - 1 = ((a - 1 : Nat) : Int) by omega]; rfl
    dsimp only
    rw [hrow]
    have e1 : ((a : Int) - 1).tdiv col * col + ((a : Int) - 1).tmod col + 2 = a + 1 := by omega
    have e2 : ((a : Int) - 1).tdiv col * col + col + ((a : Int) - 1).tmod col + 1 = (a + col : Nat) := by omega
    rw [e1, e2]
    have h1 : (if ((a : Int) - 1).tmod col + 1 < col ∧ (a : Int) + 1 ≤ n then putW (out.map (wireOf c)) (mkW a (a + 1) c) else out.map (wireOf c)) = (cond (Nat.blt ((a - 1) % col + 1) col && Nat.ble (a + 1) n) (putP out (a, a + 1)) out).map (wireOf c) :=
      cond_map (by simp only [Bool.and_eq_true, Nat.blt_eq, Nat.ble_eq]; rw [hmod]; omega) (fun _ => hput out) rfl
    rw [h1]
    refine cond_map (by simp only [Nat.ble_eq]; omega) (fun hh => ?_) rfl
    rw [← putW_map, ← mkW_lt (by omega)]
theorem refS_map {c : Int} {kind n col : Nat} (hc : kind = 4 → 1 ≤ col) : ∀ m, refS kind n col c m = (refP kind n col m).map (wireOf c)
  | 0 => rfl
  | m + 1 => by
    rw [refS_step _ _ _ _ (by omega), Nat.add_sub_cancel, refS_map hc m, stepS_map (by omega) hc]
    unfold refP
    rw [List.range'_concat, List.foldl_append]
    simp only [List.foldl_cons, List.foldl_nil, Nat.one_mul]
    rw [Nat.add_comm 1 m]
/-- Which pairs are meant. -/
def meantN (kind n col : Nat) (q : Nat × Nat) : Bool :=
  cond (Nat.beq kind 0) (Nat.beq q.2 (q.1 + 1)) (cond (Nat.beq kind 1) (Nat.beq q.2 (q.1 + 1) || ((Nat.ble 3 n && Nat.beq q.1 1) && Nat.beq q.2 n))
    (cond (Nat.beq kind 2) (Nat.beq q.1 1) (cond (Nat.beq kind 3) true (Nat.beq q.2 (q.1 + col) || (Nat.beq q.2 (q.1 + 1) && !(Nat.beq (q.1 % col) 0))))))
def sameP : List (Nat × Nat) → List (Nat × Nat) → Bool
  | [], [] => true
  | x :: l, y :: m => (Nat.beq x.1 y.1 && Nat.beq x.2 y.2) && sameP l m
  | _, _ => false
theorem sameP_eq : ∀ {l m : List (Nat × Nat)}, sameP l m = true → l = m
  | [], [], _ => rfl
  | x :: l, y :: m, h => by
    simp only [sameP, Bool.and_eq_true, Nat.beq_eq] at h
    rw [Prod.ext h.1.1 h.1.2, sameP_eq h.2]
  | [], _ :: _, h => by simp [sameP] at h
  | _ :: _, [], h => by simp [sameP] at h
theorem all_range {n : Nat} {p : Nat → Bool} (h : (List.range n).all p = true) {i : Nat} (hi : i < n) : p i = true := List.all_eq_true.1 h i (List.mem_range.2 hi)
set_option maxRecDepth 100000 in
theorem shapes0 : ((List.range 17).all fun n => (List.range 4).all fun k => sameP (refP k n 0 n) ((pairsL n).filter (meantN k n 0))) = true := by kernel_rfl
set_option maxRecDepth 100000 in
theorem shapes4 : ((List.range 17).all fun n => (List.range n).all fun c => sameP (refP 4 n (c + 1) n) ((pairsL n).filter (meantN 4 n (c + 1)))) = true := by kernel_rfl

end A
end Go.Proofs.Ytmkphhjlmhhokaa
