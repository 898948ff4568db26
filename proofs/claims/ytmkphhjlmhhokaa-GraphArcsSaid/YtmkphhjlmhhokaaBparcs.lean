/- What functions of the program compute: parcs -/
import Derived.Test.YtmkphhjlmhhokaaBgrapharcs
import Derived.Test.YtmkphhjlmhhokaaProg
import Derived.KernelRfl
set_option linter.unusedVariables false
set_option linter.unusedSimpArgs false
namespace Go.Proofs.Ytmkphhjlmhhokaa
namespace A

theorem linksB_spec {o : Int} : ∀ {l : List Link} {last : Int}, linksB o last l = true → (∀ x ∈ l, last < x.t ∧ nodeB x.t = true ∧ x.t ≠ o ∧ 1 ≤ x.c ∧ x.c ≤ 1073741824) ∧ l.Pairwise (fun x y => x.t < y.t)
  | [], _, _ => ⟨fun x hx => by simp at hx, .nil⟩
  | y :: l, last, h => by
    simp only [linksB, Bool.and_eq_true, decide_eq_true_eq, Bool.not_eq_true', beq_eq_false_iff_ne] at h
    obtain ⟨⟨⟨⟨⟨h1, h2⟩, h3⟩, h4⟩, h5⟩, h6⟩ := h
    obtain ⟨i1, i2⟩ := linksB_spec h6
    refine ⟨fun x hx => ?_, .cons (fun x hx => (i1 x hx).1) i2⟩
    rcases List.mem_cons.1 hx with rfl | hx
    · exact ⟨h2, h1, h3, h4, h5⟩
    · have := i1 x hx; exact ⟨by omega, this.2⟩
theorem lsdbB_spec : ∀ {l : List Lsa} {last : Int}, lsdbB last l = true → (∀ x ∈ l, last < x.o ∧ lsaB x = true) ∧ l.Pairwise (fun x y => x.o < y.o)
  | [], _, _ => ⟨fun x hx => by simp at hx, .nil⟩
  | y :: l, last, h => by
    simp only [lsdbB, Bool.and_eq_true, decide_eq_true_eq] at h
    obtain ⟨⟨h1, h2⟩, h3⟩ := h
    obtain ⟨i1, i2⟩ := lsdbB_spec h3
    refine ⟨fun x hx => ?_, .cons (fun x hx => (i1 x hx).1) i2⟩
    rcases List.mem_cons.1 hx with rfl | hx
    · exact ⟨h2, h1⟩
    · have := i1 x hx; exact ⟨by omega, this.2⟩
theorem pw_inj {α : Type} {f : α → Int} : ∀ {l : List α}, l.Pairwise (fun x y => f x < f y) → ∀ x ∈ l, ∀ y ∈ l, f x = f y → x = y
  | [], _, x, hx, _, _, _ => by simp at hx
  | z :: l, h, x, hx, y, hy, e => by
    rw [List.pairwise_cons] at h
    rcases List.mem_cons.1 hx with h1 | h1 <;> rcases List.mem_cons.1 hy with h2 | h2
    · rw [h1, h2]
    · subst h1; have := h.1 y h2; omega
    · subst h2; have := h.1 x h1; omega
    · exact pw_inj h.2 x h1 y h2 e
theorem find_rev {α : Type} {p : α → Bool} {l : List α} (hu : ∀ x ∈ l, ∀ y ∈ l, p x = true → p y = true → x = y) : l.reverse.find? p = l.find? p := by
  cases h1 : l.reverse.find? p with
  | none =>
    symm
    rw [List.find?_eq_none] at h1 ⊢
    exact fun x hx => h1 x (by simpa using hx)
  | some x =>
    cases h2 : l.find? p with
    | none =>
      rw [List.find?_eq_none] at h2
      exact absurd (List.find?_some h1) (h2 x (by simpa using List.mem_of_find?_eq_some h1))
    | some y => rw [hu x (by simpa using List.mem_of_find?_eq_some h1) y (List.mem_of_find?_eq_some h2) (List.find?_some h1) (List.find?_some h2)]
theorem getL_ref {db : List Lsa} (h : lsdbB 0 db = true) (n : Int) : getL db n = refGet db n := by
  unfold getL refGet
  rw [find_rev (fun x hx y hy px py => ?_)]
  have := (lsdbB_spec h).2
  exact pw_inj this x hx y hy (by simp at px py; rw [px, py])
theorem arcsAll_ref {db : List Lsa} (h : lsdbB 0 db = true) : arcsAll db = refAll db := by
  have : arcOf db = refArc db := by funext l x; simp only [arcOf, refArc, getL_ref h]
  unfold arcsAll refAll arcsOf refArcs
  rw [this]
theorem getL_mem {db : List Lsa} (h : lsdbB 0 db = true) {l : Lsa} (hl : l ∈ db) : getL db l.o = l := by
  rw [getL_ref h]
  unfold refGet
  cases hf : db.find? (fun x => x.o == l.o) with
  | none => rw [List.find?_eq_none] at hf; exact absurd (by simp) (hf l hl)
  | some x =>
    have h1 := List.mem_of_find?_eq_some hf
    have h2 := List.find?_some hf
    exact pw_inj (lsdbB_spec h).2 x h1 l hl (by simpa using h2)
theorem lsaB_links {l : Lsa} (h : lsaB l = true) : linksB l.o 0 l.ls = true := by simp only [lsaB, Bool.and_eq_true] at h; exact h.2
theorem costL_pos {ls : List Link} {n : Int} (h : 0 < costL ls n) : ∃ y ∈ ls, y.t = n := by
  unfold costL at h
  cases hf : ls.find? (fun x => x.t == n) with
  | none => rw [hf] at h; simp at h
  | some y => exact ⟨y, List.mem_of_find?_eq_some hf, by simpa using List.find?_some hf⟩
theorem costL_mem {l : Lsa} (h : lsaB l = true) {x : Link} (hx : x ∈ l.ls) : 0 < costL l.ls x.t := by
  unfold costL
  cases hf : l.ls.find? (fun y => y.t == x.t) with
  | none => rw [List.find?_eq_none] at hf; exact absurd (by simp) (hf x hx)
  | some y =>
    have := ((linksB_spec (lsaB_links h)).1 y (List.mem_of_find?_eq_some hf)).2.2.2.1
    show 0 < y.c
    omega
theorem mem_arcsAll {db : List Lsa} {a : Arc} : a ∈ arcsAll db ↔ ∃ l ∈ db, ∃ x ∈ l.ls, 0 < costL (getL db x.t).ls l.o ∧ a = ⟨l.o, x.t, x.c⟩ := by
  unfold arcsAll arcsOf arcOf
  simp only [List.mem_flatMap, List.mem_filterMap]
  constructor
  · rintro ⟨l, hl, x, hx, h⟩
    split at h
    · rename_i hc; exact ⟨l, hl, x, hx, hc, by simpa using h.symm⟩
    · simp at h
  · rintro ⟨l, hl, x, hx, hc, rfl⟩
    exact ⟨l, hl, x, hx, by rw [if_pos hc]⟩
theorem arcs_back {db : List Lsa} (h : lsdbB 0 db = true) {a : Arc} (ha : a ∈ arcsAll db) : ∃ b ∈ arcsAll db, b.f = a.t ∧ b.t = a.f := by
  obtain ⟨l, hl, x, hx, hc, rfl⟩ := mem_arcsAll.1 ha
  obtain ⟨y, hy, hyt⟩ := costL_pos hc
  have hm : getL db x.t ∈ db ∧ (getL db x.t).o = x.t := by
    rw [getL_ref h] at hy ⊢
    unfold refGet at hy ⊢
    cases hf : db.find? (fun z => z.o == x.t) with
    | none => rw [hf] at hy; simp at hy
    | some z => exact ⟨List.mem_of_find?_eq_some hf, by simpa using List.find?_some hf⟩
  refine ⟨⟨x.t, l.o, y.c⟩, mem_arcsAll.2 ⟨_, hm.1, y, hy, ?_, ?_⟩, rfl, rfl⟩
  · rw [hyt, getL_mem h hl, hm.2]
    exact costL_mem ((lsdbB_spec h).1 l hl).2 hx
  · rw [hm.2, hyt]
theorem orderA_neg {a b : Arc} : orderA a b < 0 ↔ a.f < b.f ∨ (a.f = b.f ∧ a.t < b.t) := by
  unfold orderA cmpI
  repeat' split
  all_goals omega
theorem arcsB_of : ∀ {l : List Arc} {p : Option Arc}, (∀ a ∈ l, arcB a = true) → l.Pairwise (fun q a => orderA q a < 0) → (∀ a ∈ l, ordB p a = true) → arcsB p l = true
  | [], _, _, _, _ => by unfold arcsB; rfl
  | a :: l, p, h1, h2, h3 => by
    rw [List.pairwise_cons] at h2
    have ih := arcsB_of (p := some a) (fun b hb => h1 b (by simp [hb])) h2.2 (fun b hb => by simp only [ordB, decide_eq_true_eq]; exact h2.1 b hb)
    have e : arcsB p (a :: l) = (arcB a && ordB p a && arcsB (some a) l) := by cases p <;> rfl
    rw [e, h1 a (by simp), h3 a (by simp), ih]
    rfl
theorem arcsAll_ok {db : List Lsa} (h : lsdbB 0 db = true) : arcsB none (arcsAll db) = true := by
  have hs := lsdbB_spec h
  refine arcsB_of (fun a ha => ?_) ?_ (fun _ _ => rfl)
  · obtain ⟨l, hl, x, hx, _, rfl⟩ := mem_arcsAll.1 ha
    have h1 := (hs.1 l hl).2
    have h2 := (linksB_spec (lsaB_links h1)).1 x hx
    simp only [lsaB, Bool.and_eq_true] at h1
    simp only [arcB, h1.1.1.1.1, h2.2.1, Bool.and_eq_true, Bool.not_eq_true', beq_eq_false_iff_ne, decide_eq_true_eq]
    exact ⟨⟨⟨⟨trivial, trivial⟩, fun e => h2.2.2.1 e.symm⟩, h2.2.2.2.1⟩, h2.2.2.2.2⟩
  · unfold arcsAll
    rw [List.pairwise_flatMap]
    refine ⟨fun l hl => ?_, hs.2.imp ?_⟩
    · unfold arcsOf
      rw [List.pairwise_filterMap]
      refine (linksB_spec (lsaB_links (hs.1 l hl).2)).2.imp ?_
      intro x y hxy a ha b hb
      unfold arcOf at ha hb
      split at ha <;> simp at ha
      split at hb <;> simp at hb
      subst ha; subst hb
      exact orderA_neg.2 (.inr ⟨rfl, hxy⟩)
    · intro l m hlm a ha b hb
      unfold arcsOf arcOf at ha hb
      simp only [List.mem_filterMap] at ha hb
      obtain ⟨x, _, ha⟩ := ha
      obtain ⟨y, _, hb⟩ := hb
      split at ha <;> simp at ha
      split at hb <;> simp at hb
      subst ha; subst hb
      exact orderA_neg.2 (.inl hlm)
def backP (a b : Arc) : Bool := b.f == a.t && b.t == a.f
theorem any_take {α : Type} {p : α → Bool} {l : List α} {i : Nat} {a : α} (h : l[i]? = some a) : (l.take (i + 1)).any p = ((l.take i).any p || p a) := by rw [take_step h]; simp
theorem arcs_any {db : List Lsa} (h : lsdbB 0 db = true) {a : Arc} (ha : a ∈ arcsDb db) : (arcsDb db).any (backP a) = true := by
  rw [arcsDb, if_pos h] at ha ⊢
  obtain ⟨b, hb, h1, h2⟩ := arcs_back h ha
  rw [List.any_eq_true]
  exact ⟨b, hb, by simp [backP, h1, h2]⟩
theorem arcs_len {db : List Lsa} (hl : db.length ≤ 70) (hm : ∀ x ∈ db, x.ls.length ≤ 40) : (arcsDb db).length ≤ 4000 := by
  have key : ∀ (d : List Lsa), (∀ x ∈ d, x.ls.length ≤ 40) → (d.flatMap (arcsOf db)).length ≤ d.length * 40 := by
    intro d
    induction d with
    | nil => intro _; simp
    | cons x d ih =>
      intro hm
      have h1 := ih (fun y hy => hm y (by simp [hy]))
      have h2 : (arcsOf db x).length ≤ x.ls.length := List.length_filterMap_le _ _
      have h3 := hm x (by simp)
      rw [List.flatMap_cons, List.length_append, List.length_cons]
      omega
  unfold arcsDb
  split
  · have := key db hm
    unfold arcsAll
    omega
  · simp
theorem ref_len {db : List Lsa} (hl : db.length ≤ 70) (hm : ∀ x ∈ db, x.ls.length ≤ 40) : (refAll db).length ≤ 4000 := by
  have key : ∀ (d : List Lsa), (∀ x ∈ d, x.ls.length ≤ 40) → (d.flatMap (refArcs db)).length ≤ d.length * 40 := by
    intro d
    induction d with
    | nil => intro _; simp
    | cons x d ih =>
      intro hm
      have h1 := ih (fun y hy => hm y (by simp [hy]))
      have h2 : (refArcs db x).length ≤ x.ls.length := List.length_filterMap_le _ _
      have h3 := hm x (by simp)
      rw [List.flatMap_cons, List.length_append, List.length_cons]
      omega
  have := key db hm
  unfold refAll
  omega

end A
end Go.Proofs.Ytmkphhjlmhhokaa
