/- What functions of the program compute: law40p -/
import Derived.Test.YtkgemkadebgeoaaBforest40f
import Derived.Test.YtkgemkadebgeoaaProg
import Derived.KernelRfl
set_option linter.unusedVariables false
set_option linter.unusedSimpArgs false
namespace Go.Proofs.Ytkgemkadebgeoaa
namespace A

theorem cheap_ex {l : List Edge} (hv : edgesB none l = true) : ∃ ch, Cheap l ch := by
  refine ⟨l.mergeSort (fun x y => !ahead y x), cheap_of hv (List.mergeSort_perm _ _) ?_⟩
  have h := List.pairwise_mergeSort (le := fun x y => !ahead y x) (fun x y z h1 h2 => ?_) (fun x y => ?_) l
  · refine h.imp (fun {x y} hxy => ?_)
    have : ahead y x = false := by simpa using hxy
    simp only [Go.Proofs.ltOf, decide_eq_false_iff_not, cheapE_lt, this]
    decide
  · simp only [Bool.not_eq_true'] at *
    cases h3 : ahead z x with
    | false => rfl
    | true =>
      exfalso
      have h1' : ¬ ahead y x = true := by rw [h1]; decide
      have h2' : ¬ ahead z y = true := by rw [h2]; decide
      rw [ahead_iff] at h1' h2' h3
      omega
  · cases h1 : ahead y x with
    | false => rfl
    | true => rw [ahead_asymm h1]; rfl
theorem forest_ok {l : List Edge} (hv : edgesB none l = true) : edgesB none (l.filter (A.inF l)) = true :=
  edgesB_of (fun e he => edgesB_all hv e (List.mem_filter.1 he).1) (fun q hq => by cases hq) ((edgesB_sorted hv).sublist List.filter_sublist)
theorem fmem {l ch : List Edge} (c : Cheap l ch) : (fun x => x ∈ ch.filter (A.inF l)) = (fun x => x ∈ l.filter (A.inF l)) := by
  funext x
  exact propext ((c.p.filter _).mem_iff)
theorem reach_same {l m : List Edge} (hl : ∀ e ∈ l, EOk e) (hm : ∀ e ∈ m, EOk e) (h : ∀ a b, Conn (· ∈ l) a b ↔ Conn (· ∈ m) a b) {n : Int} (h0 : 0 ≤ n) (h1 : n ≤ 64) : reachF allE l n true = reachF allE m n true := by
  funext i
  have e1 := reachF_iff (ok := allE) hl h0 h1 (i := i)
  have e2 := reachF_iff (ok := allE) hm h0 h1 (i := i)
  have f1 : (fun e => e ∈ l ∧ allE e = true) = (· ∈ l) := by funext e; simp [allE]
  have f2 : (fun e => e ∈ m ∧ allE e = true) = (· ∈ m) := by funext e; simp [allE]
  rw [f1] at e1
  rw [f2, ← h, ← e1] at e2
  cases h1 : reachF allE l n true i <;> cases h2 : reachF allE m n true i <;> simp_all
theorem forest_spans {l : List Edge} (hv : edgesB none l = true) (a b : Int) : Conn (· ∈ l) a b ↔ Conn (· ∈ l.filter (A.inF l)) a b := by
  obtain ⟨ch, c⟩ := cheap_ex hv
  rw [← c.spans, fmem c]
theorem forest_brg {l : List Edge} (hv : edgesB none l = true) : (l.filter (A.inF l)).filter (brgE (l.filter (A.inF l))) = l.filter (A.inF l) := by
  obtain ⟨ch, c⟩ := cheap_ex hv
  have hn := c.noring
  rw [List.filter_eq_self]
  intro e he
  have hok : ∀ x ∈ l.filter (A.inF l), EOk x := fun x hx => EOk.of (edgesB_all hv x (List.mem_filter.1 hx).1)
  have heo := hok e he
  unfold EOk at heo
  have hi := reachF_iff (ok := okE e 0) hok (n := e.a) (by omega) (by omega) (i := e.b)
  have hne : ¬ Conn (fun x => x ∈ l.filter (A.inF l) ∧ okE e 0 x = true) e.a e.b := fun hc => by
    refine hn e ((c.p.filter _).mem_iff.2 he) (hc.mono (fun x hx => ⟨(c.p.filter _).mem_iff.2 hx.1, fun h => ?_⟩))
    rw [h] at hx
    simp [okE] at hx
  rw [← hi] at hne
  show (!(reachF (okE e 0) (l.filter (A.inF l)) e.a (e.a != 0) e.b)) = true
  rw [show (e.a != 0) = true by simp; omega]
  simpa using hne
theorem filter_sub {some : List Edge} : ∀ {l : List Edge}, some.Sublist l → l.Nodup → l.filter (fun x => decide (x ∈ some)) = some := by
  intro l h
  induction h with
  | slnil => intro _; rfl
  | @cons m l x hs ih =>
    intro hn
    have hn' := List.nodup_cons.1 hn
    rw [List.filter_cons_of_neg (by simpa using fun hm => hn'.1 (hs.subset hm))]
    exact ih hn'.2
  | @cons_cons m l x hs ih =>
    intro hn
    have hn' := List.nodup_cons.1 hn
    rw [List.filter_cons_of_pos (by simp)]
    congr 1
    conv => rhs; rw [← ih hn'.2]
    apply List.filter_congr
    intro y hy
    have : y ≠ x := fun e => hn'.1 (by rw [← e]; exact hy)
    simp [this]
theorem forest_least {l some : List Edge} (hv : edgesB none l = true) (hs : some.Sublist l) (he : ∀ m : Int, 1 ≤ m → m < 65 → ∀ i : Int, 0 ≤ i → i < 65 → reachF allE l m true i = reachF allE some m true i) : costE (l.filter (A.inF l)) ≤ costE some := by
  obtain ⟨ch, c⟩ := cheap_ex hv
  have hnd := ltE_nodup (edgesB_sorted hv)
  have hl : ∀ e ∈ l, EOk e := fun e h => EOk.of (edgesB_all hv e h)
  have hsm : ∀ e ∈ some, EOk e := fun e h => hl e (hs.subset h)
  have key := c.least ch [] (fun x => decide (x ∈ some)) rfl (fun a b hab => by
    have hab : Conn (· ∈ l) a b := hab.mono (fun x hx => by rcases hx with h | h; simp at h; exact c.p.mem_iff.1 h)
    rcases hab.symm.range hl with h | h
    · rw [h]; exact .refl _
    rcases hab.range hl with h' | h'
    · rw [h']; exact .refl _
    have f1 : (fun e => e ∈ l ∧ allE e = true) = (· ∈ l) := by funext e; simp [allE]
    have f2 : (fun e => e ∈ some ∧ allE e = true) = (· ∈ some) := by funext e; simp [allE]
    have e1 := (reachF_iff (ok := allE) hl (n := a) (by omega) (by omega) (i := b)).2 (by rw [f1]; exact hab)
    rw [he a (by omega) (by omega) b (by omega) (by omega)] at e1
    have e2 := (reachF_iff (ok := allE) hsm (n := a) (by omega) (by omega) (i := b)).1 e1
    rw [f2] at e2
    exact e2.mono (fun x hx => .inr (List.mem_filter.2 ⟨c.p.mem_iff.2 (hs.subset hx), by simpa using hx⟩)))
  rw [costE_perm (c.p.filter (A.inF l)), costE_perm (c.p.filter _), filter_sub hs hnd] at key
  exact key

end A
end Go.Proofs.Ytkgemkadebgeoaa
