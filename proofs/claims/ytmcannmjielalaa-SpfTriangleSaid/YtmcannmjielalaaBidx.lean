/- What functions of the program compute: idx -/
import Derived.Test.YtmcannmjielalaaBgraph24
import Derived.Test.YtmcannmjielalaaProg
import Derived.KernelRfl
set_option linter.unusedVariables false
set_option linter.unusedSimpArgs false
namespace Go.Proofs.Ytmcannmjielalaa
namespace A

def idxF {α : Type} (p : α → Bool) : List α → Int
  | [] => -1
  | x :: l => if p x then 0 else if idxF p l < 0 then -1 else idxF p l + 1
theorem idxF_no {α : Type} {p : α → Bool} : ∀ {l : List α}, (∀ x ∈ l, p x = false) → idxF p l = -1 ∧ l.find? p = none
  | [], _ => ⟨rfl, rfl⟩
  | x :: l, h => by
    have h1 := h x (by simp)
    obtain ⟨h2, h3⟩ := idxF_no (l := l) (fun y hy => h y (by simp [hy]))
    simp [idxF, List.find?, h1, h2, h3]
theorem idxF_at {α : Type} {p : α → Bool} : ∀ {l : List α} {i : Nat} {x : α}, (∀ y ∈ l.take i, p y = false) → l[i]? = some x → p x = true → idxF p l = i ∧ l.find? p = some x
  | [], _, _, _, h, _ => by simp at h
  | y :: l, 0, x, _, h, hp => by simp at h; subst h; simp [idxF, List.find?, hp]
  | y :: l, i + 1, x, h, hx, hp => by
    have h1 := h y (by simp)
    obtain ⟨h2, h3⟩ := idxF_at (l := l) (i := i) (fun z hz => h z (by simp [hz])) (by simpa using hx) hp
    simp only [idxF, List.find?, h1, h2, h3, Bool.false_eq_true, if_false]
    rw [if_neg (by omega)]
    refine ⟨by simp, ?_⟩
    first | rfl | trivial
theorem idxF_cases {α : Type} (p : α → Bool) (l : List α) : (idxF p l = -1 ∧ l.find? p = none) ∨ ∃ i x, idxF p l = (i : Nat) ∧ l[i]? = some x ∧ l.find? p = some x := by
  induction l with
  | nil => exact .inl ⟨rfl, rfl⟩
  | cons y l ih =>
    cases hp : p y with
    | true => exact .inr ⟨0, y, by simp [idxF, hp], rfl, by simp [List.find?, hp]⟩
    | false =>
      rcases ih with ⟨h1, h2⟩ | ⟨i, x, h1, h2, h3⟩
      · exact .inl ⟨by simp [idxF, hp, h1], by simp [List.find?, hp, h2]⟩
      · refine .inr ⟨i + 1, x, ?_, by simpa using h2, by simp [List.find?, hp, h3]⟩
        simp only [idxF, hp, h1, Bool.false_eq_true, if_false]
        rw [if_neg (by omega)]
        simp
theorem idxF_none {α : Type} {p : α → Bool} {l : List α} (h : idxF p l = -1) : (l.filter fun x => !p x) = l := by
  rcases idxF_cases p l with ⟨_, h2⟩ | ⟨i, x, h1, _⟩
  · rw [List.filter_eq_self]
    intro a ha
    have := List.find?_eq_none.1 h2 a ha
    simpa using this
  · omega
theorem idxF_split {α : Type} {p : α → Bool} : ∀ {l : List α}, idxF p l ≠ -1 → ∃ n : Nat, idxF p l = n ∧ n < l.length ∧ l.take n = (l.take (n + 1)).filter (fun x => !p x)
  | [], h => absurd rfl h
  | y :: l, h => by
    cases hp : p y with
    | true => exact ⟨0, by simp [idxF, hp], by simp, by simp [hp]⟩
    | false =>
      have hn : idxF p l ≠ -1 := fun e => h (by simp [idxF, hp, e])
      obtain ⟨n, h1, h2, h3⟩ := idxF_split hn
      refine ⟨n + 1, ?_, by simp; omega, ?_⟩
      · simp only [idxF, hp, h1, Bool.false_eq_true, if_false]
        rw [if_neg (by omega)]
        simp
      · simp [hp]; exact h3
theorem take_set_succ {α : Type} {l : List α} {i : Nat} {x : α} (h : i < l.length) : (l.set i x).take (i + 1) = l.take i ++ [x] := by
  rw [take_step (a := x) (by rw [List.getElem?_set_self h])]
  rw [List.take_set_of_le (Nat.le_refl _)]

end A
end Go.Proofs.Ytmcannmjielalaa
