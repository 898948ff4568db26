/- What functions of the program compute: heap23p -/
import Derived.Test.YtmcannmjielalaaBbase19
import Derived.Test.YtmcannmjielalaaProg
import Derived.KernelRfl
set_option linter.unusedVariables false
set_option linter.unusedSimpArgs false
namespace Go.Proofs.Ytmcannmjielalaa
namespace A

def farI : Int := 18446744073709551615
def addS (a b : Int) : Int := if a > farI - b then farI else a + b
theorem addS_le {a b : Int} (h : 0 ≤ a) (h2 : 0 ≤ b) : addS a b ≤ a + b := by unfold addS farI; split <;> omega
/-! ### A heap of spots -/
def lessS (a b : Int × Int) : Bool := if a.1 ≠ b.1 then decide (a.1 < b.1) else decide (a.2 < b.2)
theorem lessS_iff {a b : Int × Int} : lessS a b = true ↔ a.1 < b.1 ∨ a.1 = b.1 ∧ a.2 < b.2 := by
  unfold lessS
  split
  · rw [decide_eq_true_eq]; omega
  · rw [decide_eq_true_eq]; omega
theorem lessS_no {a b : Int × Int} : lessS a b = false ↔ ¬ (a.1 < b.1 ∨ a.1 = b.1 ∧ a.2 < b.2) := by
  rw [← lessS_iff, Bool.not_eq_true]
/-- No less than, at places that there are. -/
def NL (h : List (Int × Int)) (j k : Nat) : Prop := ∀ x y, h[j]? = some x → h[k]? = some y → lessS x y = false
def HeapOk (h : List (Int × Int)) : Prop := ∀ j, 0 < j → NL h j ((j - 1) / 2)
theorem heap_min {h : List (Int × Int)} (hk : HeapOk h) {x : Int × Int} (h0 : h[0]? = some x) : ∀ (j : Nat) y, h[j]? = some y → lessS y x = false := fun j => by
  induction j using Nat.strongRecOn with
  | _ j ih =>
    intro y hy
    by_cases hj : j = 0
    · subst hj
      rw [h0] at hy
      cases hy
      rw [lessS_no]; omega
    · have hlt : (j - 1) / 2 < j := by omega
      have hl := (List.getElem?_eq_some_iff.1 hy).1
      obtain ⟨z, hz⟩ : ∃ z, h[(j - 1) / 2]? = some z := ⟨_, List.getElem?_eq_getElem (by omega)⟩
      have h1 := ih _ hlt z hz
      have h2 := hk j (by omega) y z hy hz
      rw [lessS_no] at *
      omega
theorem heap_first {h : List (Int × Int)} (hk : HeapOk h) {x : Int × Int} (h0 : h[0]? = some x) : ∀ e ∈ h, x.1 ≤ e.1 := fun e he => by
  obtain ⟨j, hj⟩ := List.mem_iff_getElem?.1 he
  have := heap_min hk h0 j e hj
  rw [lessS_no] at this
  omega
def swapH (h : List (Int × Int)) (i k : Nat) : List (Int × Int) := (h.set i (h.getD k (0, 0))).set k (h.getD i (0, 0))
theorem swapH_len (h : List (Int × Int)) (i k : Nat) : (swapH h i k).length = h.length := by simp [swapH]
theorem swapH_get {h : List (Int × Int)} {i k : Nat} (hi : i < h.length) (hk : k < h.length) (j : Nat) : (swapH h i k)[j]? = if j = k then h[i]? else if j = i then h[k]? else h[j]? := by
  unfold swapH
  simp only [List.getElem?_set, List.length_set, List.getD]
  by_cases h1 : j = k
  · subst h1; simp [hk, hi]
  · rw [if_neg (fun e => h1 e.symm), if_neg h1]
    by_cases h2 : j = i
    · subst h2; simp [hk, hi]
    · rw [if_neg (fun e => h2 e.symm), if_neg h2]
theorem swapH_perm {h : List (Int × Int)} {i k : Nat} (hi : i < h.length) (hk : k < h.length) : (swapH h i k).Perm h := by
  have := List.set_set_perm hi hk
  unfold swapH
  simpa [List.getD, hi, hk] using this
/-- All is in order but one spot and the one above it. -/
def UpOk (h : List (Int × Int)) (i : Nat) : Prop := (∀ j, 0 < j → j ≠ i → NL h j ((j - 1) / 2)) ∧ (∀ j, 0 < i → 0 < j → (j - 1) / 2 = i → NL h j ((i - 1) / 2))
theorem up_end {h : List (Int × Int)} {i : Nat} (u : UpOk h i) (he : i = 0 ∨ NL h i ((i - 1) / 2)) : HeapOk h := fun j hj => by
  by_cases e : j = i
  · subst e
    rcases he with h | h
    · omega
    · exact h
  · exact u.1 j hj e
theorem up_swap {h : List (Int × Int)} {i : Nat} (hi : i < h.length) (h0 : 0 < i) (u : UpOk h i) {x y : Int × Int} (hx : h[i]? = some x) (hy : h[(i - 1) / 2]? = some y) (hlt : lessS x y = true) : UpOk (swapH h i ((i - 1) / 2)) ((i - 1) / 2) := by
  have hk : (i - 1) / 2 < h.length := by omega
  have hp : (i - 1) / 2 < i := by omega
  have ht : ∀ a b c : Int × Int, lessS b a = false → lessS c b = false → lessS c a = false := fun a b c h1 h2 => by rw [lessS_no] at *; omega
  generalize hq : (i - 1) / 2 = q at *
  refine ⟨fun j hj hne a b ha hb => ?_, fun j hq0 hj hjq a b ha hb => ?_⟩
  · rw [swapH_get hi hk] at ha hb
    rw [if_neg hne] at ha
    by_cases hji : j = i
    · subst hji
      rw [if_pos rfl, hy] at ha
      rw [hq, if_pos rfl, hx] at hb
      cases ha; cases hb
      rw [lessS_iff] at hlt
      rw [lessS_no]
      omega
    · rw [if_neg hji] at ha
      by_cases hj1 : (j - 1) / 2 = q
      · rw [hj1, if_pos rfl, hx] at hb
        cases hb
        have h1 := u.1 j hj hji a y ha (by rw [hj1]; exact hy)
        rw [lessS_iff] at hlt
        rw [lessS_no] at *
        omega
      · rw [if_neg hj1] at hb
        by_cases hj2 : (j - 1) / 2 = i
        · rw [hj2, if_pos rfl, hy] at hb
          cases hb
          exact u.2 j h0 hj hj2 a y ha (by rw [hq]; exact hy)
        · rw [if_neg hj2] at hb
          exact u.1 j hj hji a b ha hb
  · rw [swapH_get hi hk] at ha hb
    have hbq : h[(q - 1) / 2]? = some b := by
      rw [if_neg (by omega), if_neg (by omega)] at hb
      exact hb
    have hyb := u.1 q hq0 (by omega) y b hy hbq
    rw [if_neg (by omega)] at ha
    by_cases hji : j = i
    · subst hji
      rw [if_pos rfl, hy] at ha
      cases ha
      exact hyb
    · rw [if_neg hji] at ha
      have h1 := u.1 j hj hji a y ha (by rw [hjq]; exact hy)
      exact ht _ _ _ hyb h1
theorem up_new {h : List (Int × Int)} {s : Int × Int} (hk : HeapOk h) : UpOk (h ++ [s]) h.length := by
  have hlen : (h ++ [s]).length = h.length + 1 := by simp
  refine ⟨fun j hj hne a b ha hb => ?_, fun j h0 hj hji a b ha hb => ?_⟩
  · have := (List.getElem?_eq_some_iff.1 ha).1
    rw [List.getElem?_append_left (by omega)] at ha hb
    exact hk j hj a b ha hb
  · have := (List.getElem?_eq_some_iff.1 ha).1
    omega
/-- All is in order but one spot and those below it. -/
def DownOk (h : List (Int × Int)) (i : Nat) : Prop := (∀ j, 0 < j → (j - 1) / 2 ≠ i → NL h j ((j - 1) / 2)) ∧ (∀ j, 0 < i → 0 < j → (j - 1) / 2 = i → NL h j ((i - 1) / 2))
/-- The least of a spot and those below it. -/
def LeastAt (h : List (Int × Int)) (i k : Nat) : Prop := (k = i ∨ k = 2 * i + 1 ∨ k = 2 * i + 2) ∧ NL h i k ∧ NL h (2 * i + 1) k ∧ NL h (2 * i + 2) k
theorem down_end {h : List (Int × Int)} {i : Nat} (d : DownOk h i) (hl : LeastAt h i i) : HeapOk h := fun j hj => by
  by_cases e : (j - 1) / 2 = i
  · rw [e]
    rcases (show j = 2 * i + 1 ∨ j = 2 * i + 2 by omega) with rfl | rfl
    · exact hl.2.2.1
    · exact hl.2.2.2
  · exact d.1 j hj e
theorem down_swap {h : List (Int × Int)} {i k : Nat} (hi : i < h.length) (hk : k < h.length) (d : DownOk h i) (hl : LeastAt h i k) (hne : k ≠ i) : DownOk (swapH h i k) k := by
  obtain ⟨hkk, hl0, hl1, hl2⟩ := hl
  have hki : (k - 1) / 2 = i := by omega
  have hk0 : 0 < k := by omega
  obtain ⟨x, hx⟩ : ∃ x, h[i]? = some x := ⟨_, List.getElem?_eq_getElem hi⟩
  obtain ⟨y, hy⟩ : ∃ y, h[k]? = some y := ⟨_, List.getElem?_eq_getElem hk⟩
  refine ⟨fun j hj hjk a b ha hb => ?_, fun j _ hj hjk a b ha hb => ?_⟩
  · rw [swapH_get hi hk] at ha hb
    rw [if_neg hjk] at hb
    by_cases e1 : j = k
    · subst e1
      rw [if_pos rfl, hx] at ha
      rw [hki, if_pos rfl, hy] at hb
      cases ha; cases hb
      exact hl0 x y hx hy
    · rw [if_neg e1] at ha
      by_cases e2 : j = i
      · subst e2
        rw [if_pos rfl, hy] at ha
        cases ha
        rw [if_neg (by omega)] at hb
        exact d.2 k hj hk0 hki y b hy hb
      · rw [if_neg e2] at ha
        by_cases e3 : (j - 1) / 2 = i
        · rw [e3, if_pos rfl, hy] at hb
          cases hb
          rcases (show j = 2 * i + 1 ∨ j = 2 * i + 2 by omega) with rfl | rfl
          · exact hl1 a y ha hy
          · exact hl2 a y ha hy
        · rw [if_neg e3] at hb
          exact d.1 j hj e3 a b ha hb
  · rw [swapH_get hi hk] at ha hb
    rw [hki, if_neg (by omega), if_pos rfl, hy] at hb
    cases hb
    rw [if_neg (by omega), if_neg (by omega)] at ha
    have := d.1 j hj (by omega) a y ha (by rw [hjk]; exact hy)
    exact this
theorem down_new {h : List (Int × Int)} {x : Int × Int} (hk : HeapOk h) : DownOk ((h.set 0 x).take (h.length - 1)) 0 := by
  refine ⟨fun j hj hj0 a b ha hb => ?_, fun j h0 => by omega⟩
  have h1 : ∀ (m : Nat) z, 0 < m → ((h.set 0 x).take (h.length - 1))[m]? = some z → h[m]? = some z := fun m z hm hz => by
    rw [List.getElem?_take] at hz
    split at hz
    · rw [List.getElem?_set_ne (by omega)] at hz; exact hz
    · cases hz
  exact hk j hj a b (h1 j a hj ha) (h1 _ b (by omega) hb)
theorem take_perm {h : List (Int × Int)} {x y : Int × Int} (h0 : h[0]? = some x) (hl : h[h.length - 1]? = some y) : h.Perm (x :: (h.set 0 y).take (h.length - 1)) := by
  cases h with
  | nil => simp at h0
  | cons z t =>
    simp at h0
    subst h0
    refine .cons _ ?_
    cases ht : t with
    | nil => simp
    | cons u v =>
      rw [ht] at hl
      have hne : (u :: v) ≠ [] := by simp
      have hlast : (u :: v).getLast hne = y := by
        rw [List.getLast_eq_getElem]
        simp at hl
        simpa using hl
      have hd := List.dropLast_concat_getLast hne
      rw [hlast] at hd
      have h2 : ((z :: u :: v).set 0 y).take ((z :: u :: v).length - 1) = y :: (u :: v).dropLast := by
        simp [List.dropLast_eq_take]
      rw [h2]
      calc (u :: v).Perm ((u :: v).dropLast ++ [y]) := .of_eq hd.symm
        _ |>.Perm (y :: (u :: v).dropLast) := List.perm_append_comm (l₂ := [y])

end A
end Go.Proofs.Ytmcannmjielalaa
