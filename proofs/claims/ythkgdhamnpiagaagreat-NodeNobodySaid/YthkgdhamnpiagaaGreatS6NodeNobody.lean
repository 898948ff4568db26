/- Texts that NodeNobody's proof rests on, part 7. -/
import Derived.Below
import Derived.ChangeOld
import Derived.OpenShut
import Derived.ProofKit
import Derived.ShutString
import Derived.SizedLaws
import Derived.WalkKit
import Derived.Test.YthkgdhamnpiagaaGreatS5NodeNobody
set_option linter.unusedVariables false
set_option linter.unusedSimpArgs false
namespace Go.Proofs.YthkgdhamnpiagaaGreat
namespace A
variable {P : Program}
abbrev FAll (w : World) : Nat → Prop := fun b => b < w.heap.size
/-- What the cells of a value of type t say: a thing of α (of which p holds), told as f tells it. -/
def OpC (P : Program) (t : TypeId) (n : Nat) (α : Type) (f : α → List AV) (p : α → Prop) : Prop :=
 ∀ (H : Type) (enc : TypeId × Value → H) (w : World) (sp : Nat → Bool) (held : Bool) (fuel : Nat) (cs : List Value) (x : DataW H × List MemPlace), DataW.trod enc P w 0 sp held fuel t cs = some x →
   ∃ a, p a ∧ cs.length = n ∧ (f a).length = n ∧ (∀ c ∈ cs, c.oneCell' = true) ∧ ∀ (j : Nat) av c, (f a)[j]? = some av → cs[j]? = some c → Rep (FAll w) w av c
theorem mapM_spec {α β : Type} {f : α → Option β} : ∀ {l : List α} {ys : List β}, l.mapM f = some ys → ys.length = l.length ∧ ∀ (i : Nat) x, l[i]? = some x → ∃ y, ys[i]? = some y ∧ f x = some y
 | [], ys, h => by
   simp only [List.mapM_nil, Option.pure_def, Option.some.injEq] at h
   subst h
   exact ⟨rfl, fun i x hx => by simp at hx⟩
 | a :: l, ys, h => by
   rw [List.mapM_cons] at h
   simp only [Option.bind_eq_bind, Option.pure_def, Option.bind_eq_some_iff, Option.some.injEq] at h
   obtain ⟨y, hy, zs, hzs, rfl⟩ := h
   obtain ⟨h1, h2⟩ := mapM_spec hzs
   refine ⟨by simp [h1], fun i x hx => ?_⟩
   cases i with
   | zero => simp at hx; subst hx; exact ⟨y, rfl, hy⟩
   | succ i => simpa using h2 i x (by simpa using hx)
theorem list_choose {α : Type} {G : Nat → α → Prop} : ∀ (n : Nat), (∀ i, i < n → ∃ a, G i a) → ∃ l : List α, l.length = n ∧ ∀ (i : Nat) a, l[i]? = some a → G i a
 | 0, _ => ⟨[], rfl, fun i a h => by simp at h⟩
 | n + 1, h => by
   obtain ⟨l, h1, h2⟩ := list_choose n (fun i hi => h i (by omega))
   obtain ⟨a, ha⟩ := h n (by omega)
   refine ⟨l ++ [a], by simp [h1], fun i b hb => ?_⟩
   rcases Nat.lt_or_ge i l.length with hlt | hge
   ·rw [List.getElem?_append_left hlt] at hb; exact h2 i b hb
   ·rw [List.getElem?_append_right hge] at hb
    have : i - l.length = 0 := by
      have := (List.getElem?_eq_some_iff.1 hb).1
      simp at this
      omega
    rw [this] at hb
    simp at hb
    subst hb
    rw [show i = n by omega]
    exact ha
theorem opInt {t : TypeId} {k : IntKind} (hu : P.underlying t = some (.int k)) : OpC P t 1 Int (fun n => [.v (.int k n)]) (fun n => (Lit.int k n).wf = true) := by
 intro H enc w sp held fuel cs x h
 obtain ⟨n, hcs, hx, hw⟩ := DataW.trod_int hu h
 subst hcs
 exact ⟨n, hw, rfl, rfl, fun c hc => by simp at hc; subst hc; rfl, fun j av c hj hc => by
   cases j with
   | zero => simp at hj hc; subst hj; subst hc; exact .v _
   | succ j => simp at hj⟩
/-- The fields of a struct, from cell o on. -/
def OpFs (P : Program) (fs : List Field) (o n : Nat) (β : Type) (g : β → List AV) (q : β → Prop) : Prop :=
 ∀ (H : Type) (enc : TypeId × Value → H) (w : World) (sp : Nat → Bool) (held : Bool) (fuel : Nat) (cs : List Value) (xs : List (DataW H × List MemPlace)), cs.length = n →
   (fs.mapM fun f => DataW.trod enc P w 0 sp held fuel f.type ((cs.drop f.offset).take (P.cellsOf f.type))) = some xs →
   ∃ b, q b ∧ o ≤ n ∧ (g b).length = n - o ∧ (∀ c ∈ cs.drop o, c.oneCell' = true) ∧ ∀ (j : Nat) av c, (g b)[j]? = some av → (cs.drop o)[j]? = some c → Rep (FAll w) w av c
theorem opStruct {t : TypeId} {n : Nat} {fs : Array Field} {β : Type} {g : β → List AV} {q : β → Prop} (hu : P.underlying t = some (.struct fs)) (hn : P.cellsOf t = n) (o : OpFs P fs.toList 0 n β g q) : OpC P t n β g q := by
 intro H enc w sp held fuel cs x h
 cases fuel with
 | zero => simp [DataW.trod] at h
 | succ fuel =>
   simp only [DataW.trod, hu] at h
   split at h
   ·rename_i hl
    simp only [Option.map_eq_some_iff] at h
    obtain ⟨xs, hxs, _⟩ := h
    obtain ⟨b, b1, _, b2, b3, b4⟩ := o H enc w sp held fuel cs xs (by omega) hxs
    simp only [List.drop_zero, Nat.sub_zero] at b2 b3 b4
    exact ⟨b, b1, by omega, b2, b3, b4⟩
   ·simp at h
theorem opMapP {t : TypeId} {n : Nat} {α β : Type} {f : α → List AV} {g : β → List AV} {p : α → Prop} {q : β → Prop} (o : OpC P t n α f p) (e : α → β) (he : ∀ a, p a → f a = g (e a)) (hp : ∀ a, p a → q (e a)) : OpC P t n β g q := by
 intro H enc w sp held fuel cs x h
 obtain ⟨a, h1, h2, h3, h4, h5⟩ := o H enc w sp held fuel cs x h
 exact ⟨e a, hp a h1, h2, by rw [← he a h1]; exact h3, h4, by rw [← he a h1]; exact h5⟩
theorem u8_range {n : Int} (h : (Lit.int .u8 n).wf = true) : 0 ≤ n ∧ n < 256 := by
 simp only [Lit.wf, Bool.and_eq_true, decide_eq_true_eq] at h
 have e1 : IntKind.u8.min = 0 := rfl
 have e2 : IntKind.u8.max = 255 := rfl
 omega
theorem cells?_spec {w : World} {a : Addr} {n : Nat} {cs : List Value} (h : w.cells? 0 a n = some cs) : cs.length = n ∧ ∀ j, j < n → w.cell? (a.add j) = cs[j]? := by
 simp only [World.cells?, Nat.zero_le, if_true] at h
 obtain ⟨h1, h2⟩ := mapM_spec h
 refine ⟨by simpa using h1, fun j hj => ?_⟩
 obtain ⟨y, hy, hc⟩ := h2 j j (by simp [hj])
 rw [hy, hc]
theorem cell_some {w : World} {a : Addr} {x : Value} (h : w.cell? a = some x) : a.spot = none ∧ a.block < w.heap.size := by
 unfold World.cell? at h
 cases hb : w.heap[a.block]? with
 | none => rw [hb] at h; simp at h
 | some ob =>
   rw [hb] at h
   cases ob with
   | cells c t fr =>
     simp only at h
     split at h
     ·simp at h
     ·rename_i hs
      exact ⟨by simpa using hs, (Array.getElem?_eq_some_iff.1 hb).1⟩
   | _ => simp at h
theorem opSlice {t e : TypeId} {m : Nat} {α : Type} {f : α → List AV} {p : α → Prop} (hu : P.underlying t = some (.slice e)) (hm : P.cellsOf e = m) (hm0 : 0 < m) (o : OpC P e m α f p) :
   OpC P t 1 (List α) (fun l => [.sl m (l.map f)]) (fun l => (∀ x ∈ l, p x) ∧ l.length ≤ maxLen) := by
 intro H enc w sp held fuel cs x h
 cases fuel with
 | zero => simp [DataW.trod] at h
 | succ fuel =>
   simp only [DataW.trod, hu] at h
   split at h
   case h_7 =>
     refine ⟨[], ⟨fun x hx => by simp at hx, Nat.zero_le _⟩, rfl, rfl, fun c hc => by simp at hc; subst hc; rfl, fun j av c hj hc => ?_⟩
     cases j with
     | zero => simp at hj hc; subst hj; subst hc; exact .sl0 _ _ _
     | succ j => simp at hj
   case h_8 e' a len cap he' =>
     simp only [TypeDesc.slice.injEq, Option.some.injEq] at he'
     subst he'
     split at h
     case isFalse => simp at h
     rename_i hc
     simp only [Option.bind_eq_some_iff, Option.map_eq_some_iff] at h
     obtain ⟨elems, hel, _⟩ := h
     obtain ⟨h1, h2⟩ := mapM_spec hel
     have key : ∀ i, i < len → ∃ y, p y ∧ (f y).length = m ∧ ∃ cs : List Value, cs.length = m ∧ (∀ c ∈ cs, c.oneCell' = true) ∧ (∀ j, j < m → w.cell? ((a.add (i * m)).add j) = cs[j]?) ∧ ∀ (j : Nat) av c, (f y)[j]? = some av → cs[j]? = some c → Rep (FAll w) w av c := by
       intro i hi
       obtain ⟨y, _, hy⟩ := h2 i i (by simp [hi])
       rw [hm] at hy
       simp only [Option.bind_eq_some_iff] at hy
       obtain ⟨cs, hcs, hy⟩ := hy
       obtain ⟨c1, c2⟩ := cells?_spec hcs
       obtain ⟨b, b1, b2, b3, b4, b5⟩ := o H enc w sp held fuel cs y hy
       exact ⟨b, b1, b3, cs, b2, b4, c2, b5⟩
     obtain ⟨l, l1, l2⟩ := list_choose len key
     have hlp : ∀ x ∈ l, p x := fun x hx => by
       obtain ⟨i, hi⟩ := List.getElem?_of_mem hx
       exact (l2 i x hi).1
     refine ⟨l, ⟨hlp, by omega⟩, rfl, rfl, fun c hc => by simp at hc; subst hc; rfl, fun j av c hj hc => ?_⟩
     cases j with
     | succ j => simp at hj
     | zero =>
       simp at hj hc
       subst hj
       subst hc
       by_cases hl0 : len = 0
       ·subst hl0
        have : l = [] := List.eq_nil_of_length_eq_zero l1
        subst this
        exact .sl0 _ _ _
       ·obtain ⟨y0, hy0, _, cs0, k1, _, k2, _⟩ := key 0 (by omega)
        have hfirst := k2 0 hm0
        have hadd : (a.add (0 * m)).add 0 = a := by simp [Addr.add]
        rw [hadd] at hfirst
        have hs := cell_some (w := w) (a := a) (x := cs0[0]) (by rw [hfirst]; simp)
        obtain ⟨ab, ao, as⟩ := a
        simp only at hs
        obtain ⟨rfl, hlt⟩ := hs
        have hX : ∀ i j, i < len → j < m → ∃ c, w.cell? ⟨ab, ao + (i * m + j), none⟩ = some c := by
          intro i j hi hj
          obtain ⟨y, _, _, cs, q1, _, q2, _⟩ := key i hi
          have := q2 j hj
          rw [add_none, add_none, Nat.add_assoc] at this
          exact ⟨cs[j], by rw [this]; simp⟩
        have hlen : (l.map f).length = len := by simp [l1]
        have main : Rep (FAll w) w (.sl m (l.map f)) (.slice (some ⟨ab, ao, none⟩) (l.map f).length cap) := by
          refine .sl m (l.map f) ab ao cap (fun i j => (w.cell? ⟨ab, ao + (i * m + j), none⟩).getD undef) hlt (by rw [hlen]; exact hc.2.1) (fun e he => ?_) (fun i j hi hj => ?_) (fun i j hi hj => ?_) (fun i j e av he hav => ?_)
          ·obtain ⟨y, hy, rfl⟩ := List.mem_map.1 he
           obtain ⟨i, hi⟩ := List.getElem?_of_mem hy
           exact (l2 i y hi).2.1
          ·rw [hlen] at hi
           obtain ⟨c, hc⟩ := hX i j hi hj
           rw [hc]; rfl
          ·rw [hlen] at hi
           obtain ⟨y, _, _, cs, q1, q3, q2, _⟩ := key i hi
           have := q2 j hj
           rw [add_none, add_none, Nat.add_assoc] at this
           rw [this, List.getElem?_eq_getElem (by omega)]
           exact q3 _ (List.getElem_mem _)
          ·rw [List.getElem?_map] at he
           cases hy : l[i]? with
           | none => rw [hy] at he; simp at he
           | some y =>
             rw [hy] at he
             simp only [Option.map_some, Option.some.injEq] at he
             subst he
             obtain ⟨_, g1, cs, q1, _, q2, q4⟩ := l2 i y hy
             have hj : j < m := by rw [← g1]; exact (List.getElem?_eq_some_iff.1 hav).1
             have := q2 j hj
             rw [add_none, add_none, Nat.add_assoc] at this
             rw [this, List.getElem?_eq_getElem (by omega)]
             exact q4 j av _ hav (List.getElem?_eq_getElem (by omega))
        rw [hlen] at main
        exact main
   all_goals first | (simp at h; done) | (rename_i hq; simp at hq; done) | (rename_i hq _; simp at hq; done)
theorem cells_one {v : Value} (h : v.oneCell' = true) : v.cells.toList = [v] := by cases v <;> simp_all [Value.oneCell', Value.cells]
theorem argOne {H : Type} {enc : TypeId × Value → H} {w : World} {sp : Nat → Bool} {held : Bool} {t : TypeId} {α : Type} {g : α → AV} {p : α → Prop} {v : Value} {d : DataW H} {ps : List MemPlace} (o : OpC P t 1 α (fun a => [g a]) p) (hv : v.oneCell' = true) (h : DataW.Trod enc P w 0 sp held t v d ps) :
   ∃ a, p a ∧ Rep (FAll w) w (g a) v := by
 obtain ⟨fuel, hf⟩ := h
 rw [cells_one hv] at hf
 obtain ⟨a, h1, _, _, _, h5⟩ := o H enc w sp held fuel _ _ hf
 exact ⟨a, h1, h5 0 _ v rfl rfl⟩
theorem reps_nil {F : Nat → Prop} {w : World} : Reps F w [] #[] := ⟨rfl, fun i av x h => by simp at h⟩
theorem reps_cons {F : Nat → Prop} {w : World} {av : AV} {l : List AV} {v : Value} {vs : List Value} (h : Rep F w av v) (hs : Reps F w l vs.toArray) : Reps F w (av :: l) (v :: vs).toArray := by
 refine ⟨by simpa using hs.1, fun i aw x hi hx => ?_⟩
 cases i with
 | zero => simp at hi hx; subst hi; subst hx; exact h
 | succ i => exact hs.2 i aw x (by simpa using hi) (by simpa using hx)
theorem law_calls {f : FuncId} {l : List AV} {vs : Array Value} {W : World} (T : Triple P f l [] (fun r h' => r = .v (.bool true) ∧ h' = [])) (hr : Reps (FAll W) W l vs) : Calls P f vs W fun e W' => e = .returned (.bool true) ∧ Go.RowKit.Below W.heap.size W W' := by
 refine (T.2 (FAll W) W vs ⟨fun x hx => by simp at hx, by simp, fun b hb => by simp at hb, fun b hb => ⟨hb, by simp⟩⟩ hr).mono ?_
 rintro e W' ⟨r, x, h', F', rfl, ⟨rfl, rfl⟩, hrep, _, hE⟩
 cases hrep
 exact ⟨rfl, hE.os, hE.tape, hE.output, hE.size, fun k hk => hE.keep k hk (by simp)⟩
end A
end Go.Proofs.YthkgdhamnpiagaaGreat
