/- What functions of the program compute: hops26p -/
import Derived.Test.YtmcannmjielalaaBspf25d
import Derived.Test.YtmcannmjielalaaProg
import Derived.KernelRfl
set_option linter.unusedVariables false
set_option linter.unusedSimpArgs false
namespace Go.Proofs.Ytmcannmjielalaa
namespace A

/-! ### The way hop by hop -/
def hopsF (l : List Arc) (td : Int) : Nat → Int → List Int
  | 0, v => [v]
  | k + 1, v => if v = td then [v] else v :: hopsF l td k (viaM l v td)
/-- A step of the way: an arc, and the distance falls by its cost. -/
theorem hop_step {l : List Arc} (hl : ∀ a ∈ l, AOk a) (hs : l.Pairwise ltA) {v td : Int} (h : isF l v td = true) (hne : td ≠ v) : ∃ a ∈ l, a.f = v ∧ a.t = viaM l v td ∧ isF l (viaM l v td) td = true ∧ a.c + dF l (viaM l v td) td = dF l v td := by
  obtain ⟨w, hw⟩ := fh_ex hl h hne
  have hv := viaM_is hl hs hw
  obtain ⟨a, ha, hf, ht, c, k, hc⟩ := hv.1
  have hok := hl a ha
  unfold AOk at hok
  have h1 := wk_isF hl (r := viaM l v td) (.inl (by omega)) k
  have h2 := wk_isF hl (r := v) (.inl (by omega)) (Wk.pre ha hf (by rw [ht]; exact isF_wk hl h1.1))
  exact ⟨a, ha, hf, ht, h1.1, by omega⟩
theorem isF_range {l : List Arc} (hl : ∀ a ∈ l, AOk a) {r v : Int} (h : isF l r v = true) : 1 ≤ r ∧ r ≤ 64 ∧ 1 ≤ v ∧ v ≤ 64 := by
  by_cases hr : 1 ≤ r ∧ r ≤ 64
  · rcases (isF_wk hl h).rng hl with e | e
    · omega
    · omega
  · rw [isF_none hl hr] at h; cases h
/-- What a way is: from node td node by arcs, nearer at each. -/
inductive HWay (l : List Arc) (td : Int) : Int → List Int → Prop
  | here : HWay l td td [td]
  | hop {v : Int} {a : Arc} {p : List Int} : a ∈ l → a.f = v → td ≠ v → isF l v td = true → a.c + dF l a.t td = dF l v td → HWay l td a.t p → HWay l td v (v :: p)
theorem hopsF_way {l : List Arc} (hl : ∀ a ∈ l, AOk a) (hs : l.Pairwise ltA) {td : Int} : ∀ (k : Nat) (v : Int) (L : List Int), isF l v td = true → L.Nodup → (∀ u ∈ L, 1 ≤ u ∧ u ≤ 64 ∧ dF l v td < dF l u td) → 64 ≤ L.length + k → HWay l td v (hopsF l td k v)
  | 0, v, L, h, hn, hL, hk => by
    have hr := isF_range hl h
    have h1 : (v :: L).Nodup := List.nodup_cons.2 ⟨fun hm => by have := (hL v hm).2.2; omega, hn⟩
    have h2 := nodup_len (l := (v :: L).map (· - 1)) (n := 64) (by
      rw [List.nodup_iff_pairwise_ne] at h1 ⊢
      rw [List.pairwise_map]
      exact h1.imp (fun h e => h (by omega))) (fun x hx => by
      obtain ⟨u, hu, rfl⟩ := List.mem_map.1 hx
      rcases List.mem_cons.1 hu with rfl | hu
      · omega
      · have := hL u hu; omega)
    simp at h2
    omega
  | k + 1, v, L, h, hn, hL, hk => by
    unfold hopsF
    by_cases e : v = td
    · rw [if_pos e, e]; exact .here
    · rw [if_neg e]
      obtain ⟨a, ha, hf, ht, hi, hd⟩ := hop_step hl hs h (fun e' => e e'.symm)
      have hok := hl a ha
      have hr := isF_range hl h
      unfold AOk at hok
      refine .hop ha hf (fun e' => e e'.symm) h (by rw [ht]; exact hd) ?_
      rw [ht]
      refine hopsF_way hl hs k _ (v :: L) hi (List.nodup_cons.2 ⟨fun hm => by have := (hL v hm).2.2; omega, hn⟩) (fun u hu => ?_) (by simp; omega)
      rcases List.mem_cons.1 hu with rfl | hu
      · exact ⟨by omega, by omega, by omega⟩
      · have := hL u hu; exact ⟨by omega, by omega, by omega⟩
theorem hops_way {l : List Arc} (hl : ∀ a ∈ l, AOk a) (hs : l.Pairwise ltA) {v td : Int} (h : isF l v td = true) : HWay l td v (hopsF l td 64 v) :=
  hopsF_way hl hs 64 v [] h .nil (fun u hu => by simp at hu) (by simp)
theorem HWay.lt {l : List Arc} (hl : ∀ a ∈ l, AOk a) {td v : Int} {p : List Int} (h : HWay l td v p) : (∀ u ∈ p, dF l u td ≤ dF l v td) ∧ p.Pairwise (fun a b => dF l b td < dF l a td) := by
  induction h with
  | here => simp
  | @hop v a p ha hf hne hi hd hp ih =>
    have hok := hl a ha
    unfold AOk at hok
    refine ⟨fun u hu => ?_, List.pairwise_cons.2 ⟨fun u hu => ?_, ih.2⟩⟩
    · rcases List.mem_cons.1 hu with rfl | hu
      · exact Int.le_refl _
      · have := ih.1 u hu; omega
    · have := ih.1 u hu; omega
theorem HWay.nodup {l : List Arc} (hl : ∀ a ∈ l, AOk a) {td v : Int} {p : List Int} (h : HWay l td v p) : p.Nodup :=
  (h.lt hl).2.imp (fun h e => by subst e; omega)
theorem HWay.ends {l : List Arc} {td v : Int} {p : List Int} (h : HWay l td v p) : p.head? = some v ∧ p.getLast? = some td := by
  induction h with
  | here => exact ⟨rfl, rfl⟩
  | @hop v a p ha hf hne hi hd hp ih =>
    refine ⟨rfl, ?_⟩
    rw [List.getLast?_cons, ih.2]
    rfl
theorem HWay.len {l : List Arc} (hl : ∀ a ∈ l, AOk a) {td v : Int} {p : List Int} (ht : 1 ≤ td ∧ td ≤ 64) (h : HWay l td v p) : p.length ≤ 64 := by
  have h1 := h.nodup hl
  have hr : ∀ u ∈ p, 1 ≤ u ∧ u ≤ 64 := by
    clear h1
    induction h with
    | here => intro u hu; rw [List.mem_singleton.1 hu]; exact ht
    | @hop v a p ha hf hne hi hd hp ih =>
      intro u hu
      have hok := hl a ha
      unfold AOk at hok
      rcases List.mem_cons.1 hu with rfl | hu
      · omega
      · exact ih u hu
  have h2 := nodup_len (l := p.map (· - 1)) (n := 64) (by
      rw [List.nodup_iff_pairwise_ne] at h1 ⊢
      rw [List.pairwise_map]
      exact h1.imp (fun h e => h (by omega))) (fun x hx => by
      obtain ⟨u, hu, rfl⟩ := List.mem_map.1 hx
      have := hr u hu; omega)
  simpa using h2
/-- At each step: an arc, by whose cost the distance falls. -/
theorem HWay.arc {l : List Arc} {td v : Int} {p : List Int} (h : HWay l td v p) : ∀ (i : Nat) x y, p[i]? = some x → p[i + 1]? = some y → ∃ a ∈ l, a.f = x ∧ a.t = y ∧ a.c + dF l y td = dF l x td := by
  induction h with
  | here => intro i x y hx hy; simp at hy
  | @hop v a p ha hf hne hi hd hp ih =>
    intro i x y hx hy
    cases i with
    | zero =>
      simp at hx hy
      subst hx
      have he := hp.ends.1
      rw [List.head?_eq_getElem?] at he
      rw [he] at hy
      cases hy
      exact ⟨a, ha, hf, rfl, hd⟩
    | succ i =>
      exact ih i x y (by simpa using hx) (by simpa using hy)

end A
end Go.Proofs.Ytmcannmjielalaa
