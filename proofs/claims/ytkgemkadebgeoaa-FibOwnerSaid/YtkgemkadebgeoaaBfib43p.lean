/- What functions of the program compute: fib43p -/
import Derived.Test.YtkgemkadebgeoaaBorder42
import Derived.Test.YtkgemkadebgeoaaAbs26
import Derived.Test.YtkgemkadebgeoaaAbs22
import Derived.Test.YtkgemkadebgeoaaProg
import Derived.KernelRfl
set_option linter.unusedVariables false
set_option linter.unusedSimpArgs false
namespace Go.Proofs.Ytkgemkadebgeoaa
namespace A

def cmpI (a b : Int) : Int := if a < b then -1 else if b < a then 1 else 0
def orI : List Int → Int
  | [] => 0
  | a :: l => if a ≠ 0 then a else orI l
theorem orI_drop {xs : List Int} {i : Nat} {a : Int} (h : xs[i]? = some a) : orI (xs.drop i) = if a ≠ 0 then a else orI (xs.drop (i + 1)) := by
  rw [drop_step h]
  rfl
theorem cmpI_ne {a b : Int} : cmpI a b ≠ 0 ↔ a ≠ b := by unfold cmpI; split <;> (try split) <;> omega
theorem cmpI_lt {a b : Int} : cmpI a b < 0 ↔ a < b := by unfold cmpI; split <;> (try split) <;> omega

structure Rt where
  nd : Int
  via : Int
  c : Int
  deriving DecidableEq, Inhabited
structure Way where
  c : Int
  nd : Int
  via : Int
  deriving DecidableEq, Inhabited
abbrev PfxK := Nat × Int
def findR (rs : List Rt) (nd : Int) : Option Rt := rs.find? fun r => r.nd == nd
def reachM (me : Int) (rs : List Rt) (nd : Int) : Option Way := if nd = me then some ⟨0, nd, -1⟩ else (findR rs nd).map fun r => ⟨r.c, nd, r.via⟩
def ltW (w u : Way) : Bool := decide (w.c < u.c) || (w.c == u.c && decide (w.nd < u.nd))
def upW (o : Option Way) (w : Way) : Option Way := match o with
  | none => some w
  | some u => if ltW w u then some w else some u
def toOk (nd : Int) : Bool := decide (1 ≤ nd) && decide (nd ≤ 64)
def stepM (me : Int) (rs : List Rt) (m : List (PfxK × Way)) (e : E42) : List (PfxK × Way) :=
  if okP e.b e.n && toOk e.tv then match reachM me rs e.tv with
    | none => m
    | some w => match kGet m (e.b, e.n) with
      | none => kPut m (e.b, e.n) w
      | some u => if ltW w u then kPut m (e.b, e.n) w else m
  else m
def bestM (me : Int) (rs : List Rt) (cs : List E42) : List (PfxK × Way) := cs.foldl (stepM me rs) []
def stepP (me : Int) (rs : List Rt) (b : Nat) (n : Int) (o : Option Way) (e : E42) : Option Way :=
  if (decide (e.b = b) && decide (e.n = n)) && toOk e.tv then match reachM me rs e.tv with
    | none => o
    | some w => upW o w
  else o
def bestP (me : Int) (rs : List Rt) (cs : List E42) (b : Nat) (n : Int) : Option Way := cs.foldl (stepP me rs b n) none
theorem stepM_get {me : Int} {rs : List Rt} {m : List (PfxK × Way)} {e : E42} {b : Nat} {n : Int} {o : Option Way} (h : kGet m (b, n) = if okP b n then o else none) : kGet (stepM me rs m e) (b, n) = if okP b n then stepP me rs b n o e else none := by
  unfold stepM stepP
  by_cases h1 : okP e.b e.n && toOk e.tv
  · rw [if_pos h1]
    rw [Bool.and_eq_true] at h1
    cases hr : reachM me rs e.tv with
    | none => simp only [ite_self]; rw [h]
    | some w =>
      simp only
      by_cases hk : e.b = b ∧ e.n = n
      · obtain ⟨rfl, rfl⟩ := hk
        rw [h1.1, if_pos rfl] at h
        rw [h, if_pos (c := okP e.b e.n = true) h1.1, if_pos (by simp [h1.2])]
        cases o with
        | none => simp only [upW]; rw [kGet_put, if_pos rfl]
        | some u =>
          simp only [upW]
          split
          · rw [kGet_put, if_pos rfl]
          · exact h
      · rw [if_neg (c := ((decide (e.b = b) && decide (e.n = n)) && toOk e.tv) = true) (by simp only [Bool.and_eq_true, decide_eq_true_eq]; intro h; exact hk h.1)]
        have hne : ¬ ((b, n) : PfxK) = (e.b, e.n) := fun e => hk (by simp only [Prod.mk.injEq] at e; exact ⟨e.1.symm, e.2.symm⟩)
        rw [← h]
        split
        · rw [kGet_put, if_neg hne]
        · split
          · rw [kGet_put, if_neg hne]
          · rfl
  · rw [if_neg h1, h]
    cases hok : okP b n with
    | false => rfl
    | true =>
      simp only [if_true]
      split
      · rename_i h2
        simp only [Bool.and_eq_true, decide_eq_true_eq] at h2
        exact absurd (by rw [Bool.and_eq_true, h2.1.1, h2.1.2]; exact ⟨hok, h2.2⟩) h1
      · rfl
theorem foldM_get {me : Int} {rs : List Rt} {b : Nat} {n : Int} : ∀ {cs : List E42} {m : List (PfxK × Way)} {o : Option Way}, kGet m (b, n) = (if okP b n then o else none) → kGet (cs.foldl (stepM me rs) m) (b, n) = if okP b n then cs.foldl (stepP me rs b n) o else none
  | [], _, _, h => h
  | e :: cs, m, o, h => foldM_get (cs := cs) (stepM_get h)
theorem bestM_get {me : Int} {rs : List Rt} {cs : List E42} {b : Nat} {n : Int} : kGet (bestM me rs cs) (b, n) = if okP b n then bestP me rs cs b n else none := foldM_get (by simp [kGet])
theorem stepM_nodup {me : Int} {rs : List Rt} {m : List (PfxK × Way)} {e : E42} (h : (m.map Prod.fst).Nodup) : ((stepM me rs m e).map Prod.fst).Nodup := by
  unfold stepM
  split
  · split
    · exact h
    · split
      · exact kPut_nodup h
      · split
        · exact kPut_nodup h
        · exact h
  · exact h
theorem bestM_nodup {me : Int} {rs : List Rt} {cs : List E42} : ((bestM me rs cs).map Prod.fst).Nodup := by
  unfold bestM
  have : ∀ (cs : List E42) (m : List (PfxK × Way)), (m.map Prod.fst).Nodup → ((cs.foldl (stepM me rs) m).map Prod.fst).Nodup := fun cs => by
    induction cs with
    | nil => intro m h; exact h
    | cons e cs ih => intro m h; exact ih _ (stepM_nodup h)
  exact this cs [] (by simp)
theorem stepM_len {me : Int} {rs : List Rt} {m : List (PfxK × Way)} {e : E42} : (stepM me rs m e).length ≤ m.length + 1 := by
  unfold stepM
  split
  · split
    · omega
    · split
      · exact kPut_len
      · split
        · exact kPut_len
        · omega
  · omega
theorem bestM_len {me : Int} {rs : List Rt} {cs : List E42} : (bestM me rs cs).length ≤ cs.length := by
  unfold bestM
  have : ∀ (cs : List E42) (m : List (PfxK × Way)), (cs.foldl (stepM me rs) m).length ≤ m.length + cs.length := fun cs => by
    induction cs with
    | nil => intro m; simp
    | cons e cs ih => intro m; have := ih (stepM me rs m e); have := stepM_len (me := me) (rs := rs) (m := m) (e := e); simp only [List.foldl_cons, List.length_cons]; omega
  have := this cs []
  simpa using this
/-- Ways of claims. -/
def WayOf (me : Int) (rs : List Rt) (cs : List E42) (b : Nat) (n : Int) (w : Way) : Prop := ∃ e ∈ cs, e.b = b ∧ e.n = n ∧ toOk e.tv = true ∧ reachM me rs e.tv = some w
theorem foldP_of {me : Int} {rs : List Rt} {b : Nat} {n : Int} {C : Way → Prop} : ∀ {cs : List E42} {o : Option Way}, (∀ w, o = some w → C w) → (∀ w, WayOf me rs cs b n w → C w) → ∀ w, cs.foldl (stepP me rs b n) o = some w → C w
  | [], _, h, _, w, hw => h w hw
  | e :: cs, o, h, h2, w, hw => by
    refine foldP_of (cs := cs) (o := stepP me rs b n o e) (fun w hw => ?_) (fun w ⟨x, hx, h3⟩ => h2 w ⟨x, by simp [hx], h3⟩) w hw
    unfold stepP at hw
    split at hw
    · rename_i h1
      simp only [Bool.and_eq_true, decide_eq_true_eq] at h1
      cases hr : reachM me rs e.tv with
      | none => rw [hr] at hw; exact h w hw
      | some u =>
        rw [hr] at hw
        have hu : C u := h2 u ⟨e, by simp, h1.1.1, h1.1.2, h1.2, hr⟩
        cases o with
        | none => simp only [upW] at hw; cases hw; exact hu
        | some v =>
          simp only [upW] at hw
          split at hw
          · cases hw; exact hu
          · exact h w hw
    · exact h w hw
theorem bestP_of {me : Int} {rs : List Rt} {cs : List E42} {b : Nat} {n : Int} {w : Way} (h : bestP me rs cs b n = some w) : WayOf me rs cs b n w :=
  foldP_of (C := WayOf me rs cs b n) (fun w hw => by cases hw) (fun w h => h) w h
theorem bestP_none {me : Int} {rs : List Rt} {b : Nat} {n : Int} : ∀ {cs : List E42}, (∀ e ∈ cs, ¬ (e.b = b ∧ e.n = n)) → bestP me rs cs b n = none := fun {cs} h => by
  unfold bestP
  induction cs with
  | nil => rfl
  | cons e cs ih =>
    rw [List.foldl_cons]
    have : stepP me rs b n none e = none := by
      unfold stepP
      rw [if_neg]
      simp only [Bool.and_eq_true, decide_eq_true_eq]
      intro h2
      exact h e (by simp) h2.1
    rw [this]
    exact ih (fun x hx => h x (by simp [hx]))

/-! ### Tables -/
def entW (tl : Way → Int) (p : PfxK × Way) : Ent := ⟨p.1.1, p.1.2.toNat, tl p.2⟩
/-- A table: in order, and of each prefix that is reached, what a way says. -/
structure Tbl (me : Int) (rs : List Rt) (cs : List E42) (tl : Way → Int) (t : List Ent) : Prop where
  s : t.Pairwise Ahd
  m : ∀ e, e ∈ t ↔ ∃ w, okP e.b e.n = true ∧ bestP me rs cs e.b e.n = some w ∧ e.tv = tl w
theorem ahd_nodup {l : List Ent} (h : l.Pairwise Ahd) : l.Nodup := h.imp (fun {x y} h e => by subst e; exact ahd_asymm h h)
theorem Tbl.eq {me : Int} {rs : List Rt} {cs : List E42} {tl : Way → Int} {t u : List Ent} (h1 : Tbl me rs cs tl t) (h2 : Tbl me rs cs tl u) : t = u :=
  sorted_eq h1.s h2.s ((List.perm_ext_iff_of_nodup (ahd_nodup h1.s) (ahd_nodup h2.s)).2 (fun e => by rw [h1.m, h2.m]))
def entLt (a b : Ent) : Int := orI [cmpI a.b b.b, cmpI a.n b.n]
theorem okP_nat {b : Nat} {n : Int} (h : okP b n = true) : ∃ k : Nat, n = k ∧ k ≤ 32 := by
  have := okP_iff.1 h
  exact ⟨n.toNat, by omega, by omega⟩
theorem mem_bestM {me : Int} {rs : List Rt} {cs : List E42} {b : Nat} {n : Int} {w : Way} : ((b, n), w) ∈ bestM me rs cs ↔ okP b n = true ∧ bestP me rs cs b n = some w := by
  have hg := bestM_get (me := me) (rs := rs) (cs := cs) (b := b) (n := n)
  constructor
  · intro h
    obtain ⟨i, hi⟩ := List.mem_iff_getElem?.1 h
    rw [kGet_at bestM_nodup hi] at hg
    split at hg
    · exact ⟨by assumption, hg.symm⟩
    · cases hg
  · rintro ⟨h1, h2⟩
    rw [if_pos h1, h2] at hg
    have : ∀ {m : List (PfxK × Way)}, kGet m (b, n) = some w → ((b, n), w) ∈ m := fun {m} h => by
      induction m with
      | nil => cases h
      | cons p t ih =>
        obtain ⟨k, v⟩ := p
        simp only [kGet] at h
        split at h
        · rename_i e; cases h; rw [e]; simp
        · exact List.mem_cons_of_mem _ (ih h)
    exact this hg
theorem tbl_of {me : Int} {rs : List Rt} {cs : List E42} {tl : Way → Int} {t : List Ent} (hp : t.Perm ((bestM me rs cs).map (entW tl))) (hs : t.Pairwise fun x y => Go.Proofs.ltOf entLt y x = false) : Tbl me rs cs tl t where
  s := by
    have hn : (t.map fun e => ((e.b, (e.n : Int)) : PfxK)).Nodup := by
      have h1 : (t.map fun e => ((e.b, (e.n : Int)) : PfxK)).Perm (((bestM me rs cs).map (entW tl)).map fun e => ((e.b, (e.n : Int)) : PfxK)) := hp.map _
      rw [h1.nodup_iff]
      have h2 : ((bestM me rs cs).map (entW tl)).map (fun e => ((e.b, (e.n : Int)) : PfxK)) = (bestM me rs cs).map Prod.fst := by
        rw [List.map_map]
        refine List.map_congr_left (fun p hp => ?_)
        obtain ⟨⟨b, n⟩, w⟩ := p
        obtain ⟨k, rfl, _⟩ := okP_nat (mem_bestM.1 hp).1
        simp [entW]
      rw [h2]
      exact bestM_nodup
    rw [List.nodup_iff_pairwise_ne, List.pairwise_map] at hn
    refine (hs.and hn).imp (fun {x y} h => ?_)
    obtain ⟨h1, h2⟩ := h
    have h3 : ¬ (x.b = y.b ∧ x.n = y.n) := fun e => h2 (by rw [e.1, e.2])
    simp only [Go.Proofs.ltOf, decide_eq_false_iff_not] at h1
    simp only [entLt, orI] at h1
    simp only [Ahd, aheadE, Bool.or_eq_true, Bool.and_eq_true, decide_eq_true_eq, beq_iff_eq]
    have a1 := cmpI_ne (a := y.b) (b := x.b)
    have a2 := cmpI_lt (a := y.b) (b := x.b)
    have a3 := cmpI_ne (a := y.n) (b := x.n)
    have a4 := cmpI_lt (a := y.n) (b := x.n)
    split at h1
    · omega
    · split at h1 <;> omega
  m := fun e => by
    rw [hp.mem_iff, List.mem_map]
    constructor
    · rintro ⟨⟨⟨b, n⟩, w⟩, h1, rfl⟩
      obtain ⟨h2, h3⟩ := mem_bestM.1 h1
      obtain ⟨k, rfl, _⟩ := okP_nat h2
      exact ⟨w, by simpa [entW] using h2, by simpa [entW] using h3, rfl⟩
    · rintro ⟨w, h1, h2, h3⟩
      refine ⟨((e.b, e.n), w), mem_bestM.2 ⟨h1, h2⟩, ?_⟩
      cases e
      simp [entW] at h3 ⊢
      exact h3.symm

end A
end Go.Proofs.Ytkgemkadebgeoaa
