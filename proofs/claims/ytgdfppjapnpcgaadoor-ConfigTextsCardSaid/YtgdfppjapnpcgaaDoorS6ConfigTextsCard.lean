/- Texts that ConfigTextsCard's proof rests on, part 7. -/
import Derived.Below
import Derived.ChangeOld
import Derived.OpenShut
import Derived.ProofKit
import Derived.ShutString
import Derived.SizedLaws
import Derived.WalkKit
import Derived.Test.YtgdfppjapnpcgaaDoorS5ConfigTextsCard
set_option linter.unusedVariables false
set_option linter.unusedSimpArgs false
namespace Go.Proofs.YtgdfppjapnpcgaaDoor
namespace A
variable {P : Program}
abbrev FAll (w : World) : Nat → Prop := fun b => b < w.heap.size
/-- What the cells of a value of type t say: a thing of α (of which p holds), told as f tells it. -/
def OpC (P : Program) (t : TypeId) (n : Nat) (α : Type) (f : α → List AV) (p : α → Prop) : Prop :=
 ∀ (H : Type) (enc : TypeId × Value → H) (w : World) (sp : Nat → Bool) (held : Bool) (fuel : Nat) (cs : List Value) (x : DataW H × List MemPlace), DataW.trod enc P w 0 sp held fuel t cs = some x →
   ∃ a, p a ∧ cs.length = n ∧ (f a).length = n ∧ (∀ c ∈ cs, c.oneCell' = true) ∧ ∀ (j : Nat) av c, (f a)[j]? = some av → cs[j]? = some c → Rep (FAll w) w av c
theorem mapM_spec {α β : Type} {f : α → Option β} : ∀ {l : List α} {ys : List β}, l.mapM f = some ys → ys.length = l.length ∧ ∀ (i : Nat) x, l[i]? = some x → ∃ y, ys[i]? = some y ∧ f x = some y
 | [], ys, h => by
   simp only [List.mapM_nil, Option.pure_def, Option.some.injEq] at h
   subst h
   exact ⟨rfl, fun i x hx => by simp at hx⟩
 | a :: l, ys, h => by
   rw [List.mapM_cons] at h
   simp only [Option.bind_eq_bind, Option.pure_def, Option.bind_eq_some_iff, Option.some.injEq] at h
   obtain ⟨y, hy, zs, hzs, rfl⟩ := h
   obtain ⟨h1, h2⟩ := mapM_spec hzs
   refine ⟨by simp [h1], fun i x hx => ?_⟩
   cases i with
   | zero => simp at hx; subst hx; exact ⟨y, rfl, hy⟩
   | succ i => simpa using h2 i x (by simpa using hx)
theorem list_choose {α : Type} {G : Nat → α → Prop} : ∀ (n : Nat), (∀ i, i < n → ∃ a, G i a) → ∃ l : List α, l.length = n ∧ ∀ (i : Nat) a, l[i]? = some a → G i a
 | 0, _ => ⟨[], rfl, fun i a h => by simp at h⟩
 | n + 1, h => by
   obtain ⟨l, h1, h2⟩ := list_choose n (fun i hi => h i (by omega))
   obtain ⟨a, ha⟩ := h n (by omega)
   refine ⟨l ++ [a], by simp [h1], fun i b hb => ?_⟩
   rcases Nat.lt_or_ge i l.length with hlt | hge
   ·rw [List.getElem?_append_left hlt] at hb; exact h2 i b hb
   ·rw [List.getElem?_append_right hge] at hb
    have : i - l.length = 0 := by
      have := (List.getElem?_eq_some_iff.1 hb).1
      simp at this
      omega
    rw [this] at hb
    simp at hb
    subst hb
    rw [show i = n by omega]
    exact ha
theorem opInt {t : TypeId} {k : IntKind} (hu : P.underlying t = some (.int k)) : OpC P t 1 Int (fun n => [.v (.int k n)]) (fun n => (Lit.int k n).wf = true) := by
 intro H enc w sp held fuel cs x h
 obtain ⟨n, hcs, hx, hw⟩ := DataW.trod_int hu h
 subst hcs
 exact ⟨n, hw, rfl, rfl, fun c hc => by simp at hc; subst hc; rfl, fun j av c hj hc => by
   cases j with
   | zero => simp at hj hc; subst hj; subst hc; exact .v _
   | succ j => simp at hj⟩
theorem opBool {t : TypeId} (hu : P.underlying t = some .bool) : OpC P t 1 Bool (fun n => [.v (.bool n)]) (fun _ => True) := by
 intro H enc w sp held fuel cs x h
 cases fuel with
 | zero => simp [DataW.trod] at h
 | succ fuel =>
   simp only [DataW.trod, hu] at h
   split at h
   case h_1 b _ =>
     refine ⟨b, trivial, rfl, rfl, fun c hc => by simp at hc; subst hc; rfl, fun j av c hj hc => ?_⟩
     cases j with
     | zero => simp at hj hc; subst hj; subst hc; exact .v _
     | succ j => simp at hj
   all_goals first | (simp at h; done) | (rename_i hq; simp at hq; done) | (rename_i hq _; simp at hq; done)
theorem opStr {t : TypeId} (hu : P.underlying t = some .string) : OpC P t 1 ByteArray (fun n => [.v (.string n)]) (fun n => n.size ≤ maxLen) := by
 intro H enc w sp held fuel cs x h
 cases fuel with
 | zero => simp [DataW.trod] at h
 | succ fuel =>
   simp only [DataW.trod, hu] at h
   split at h
   case h_4 b _ =>
     refine ⟨b, by split at h <;> simp_all, rfl, rfl, fun c hc => by simp at hc; subst hc; rfl, fun j av c hj hc => ?_⟩
     cases j with
     | zero => simp at hj hc; subst hj; subst hc; exact .v _
     | succ j => simp at hj
   all_goals first | (simp at h; done) | (rename_i hq; simp at hq; done) | (rename_i hq _; simp at hq; done)
theorem opMap {t : TypeId} {n : Nat} {α β : Type} {f : α → List AV} {g : β → List AV} {p : α → Prop} {q : β → Prop} (o : OpC P t n α f p) (e : α → β) (he : ∀ a, f a = g (e a)) (hp : ∀ a, p a → q (e a)) : OpC P t n β g q := by
 intro H enc w sp held fuel cs x h
 obtain ⟨a, h1, h2, h3, h4, h5⟩ := o H enc w sp held fuel cs x h
 exact ⟨e a, hp a h1, h2, by rw [← he]; exact h3, h4, by rw [← he]; exact h5⟩
/-- The fields of a struct, from cell o on. -/
def OpFs (P : Program) (fs : List Field) (o n : Nat) (β : Type) (g : β → List AV) (q : β → Prop) : Prop :=
 ∀ (H : Type) (enc : TypeId × Value → H) (w : World) (sp : Nat → Bool) (held : Bool) (fuel : Nat) (cs : List Value) (xs : List (DataW H × List MemPlace)), cs.length = n →
   (fs.mapM fun f => DataW.trod enc P w 0 sp held fuel f.type ((cs.drop f.offset).take (P.cellsOf f.type))) = some xs →
   ∃ b, q b ∧ o ≤ n ∧ (g b).length = n - o ∧ (∀ c ∈ cs.drop o, c.oneCell' = true) ∧ ∀ (j : Nat) av c, (g b)[j]? = some av → (cs.drop o)[j]? = some c → Rep (FAll w) w av c
theorem fsNil {n : Nat} : OpFs P [] n n Unit (fun _ => []) (fun _ => True) := by
 intro H enc w sp held fuel cs xs hn h
 exact ⟨(), trivial, Nat.le_refl _, by simp, by rw [List.drop_of_length_le (by omega)]; simp, fun j av c hj => by simp at hj⟩
theorem fsCons {fd : Field} {r : List Field} {o m n : Nat} {α β : Type} {f : α → List AV} {g : β → List AV} {p : α → Prop} {q : β → Prop} (ho : fd.offset = o) (hm : P.cellsOf fd.type = m) (of' : OpC P fd.type m α f p) (or' : OpFs P r (o + m) n β g q) :
   OpFs P (fd :: r) o n (α × β) (fun x => f x.1 ++ g x.2) (fun x => p x.1 ∧ q x.2) := by
 intro H enc w sp held fuel cs xs hn h
 rw [List.mapM_cons] at h
 simp only [Option.bind_eq_bind, Option.pure_def, Option.bind_eq_some_iff, Option.some.injEq] at h
 obtain ⟨y, hy, zs, hzs, rfl⟩ := h
 obtain ⟨a, a1, a2, a3, a4, a5⟩ := of' H enc w sp held fuel _ y hy
 obtain ⟨b, b1, b0, b2, b3, b4⟩ := or' H enc w sp held fuel cs zs hn hzs
 rw [ho, hm] at a2 a4 a5
 have hsplit : cs.drop o = (cs.drop o).take m ++ cs.drop (o + m) := by
   conv => lhs; rw [← List.take_append_drop m (cs.drop o)]
   rw [List.drop_drop]
 refine ⟨(a, b), ⟨a1, b1⟩, by omega, by simp only [List.length_append, a3, b2]; omega, ?_, ?_⟩
 ·rw [hsplit]
  intro c hc
  rcases List.mem_append.1 hc with hc | hc
  ·exact a4 c hc
  ·exact b3 c hc
 ·intro j av c hj hc
  rw [hsplit] at hc
  simp only at hj
  rcases Nat.lt_or_ge j m with hlt | hge
  ·rw [List.getElem?_append_left (by omega)] at hj
   rw [List.getElem?_append_left (by omega)] at hc
   exact a5 j av c hj hc
  ·rw [List.getElem?_append_right (by omega), a3] at hj
   rw [List.getElem?_append_right (by omega), a2] at hc
   exact b4 _ av c hj hc
theorem opStruct {t : TypeId} {n : Nat} {fs : Array Field} {β : Type} {g : β → List AV} {q : β → Prop} (hu : P.underlying t = some (.struct fs)) (hn : P.cellsOf t = n) (o : OpFs P fs.toList 0 n β g q) : OpC P t n β g q := by
 intro H enc w sp held fuel cs x h
 cases fuel with
 | zero => simp [DataW.trod] at h
 | succ fuel =>
   simp only [DataW.trod, hu] at h
   split at h
   ·rename_i hl
    simp only [Option.map_eq_some_iff] at h
    obtain ⟨xs, hxs, _⟩ := h
    obtain ⟨b, b1, _, b2, b3, b4⟩ := o H enc w sp held fuel cs xs (by omega) hxs
    simp only [List.drop_zero, Nat.sub_zero] at b2 b3 b4
    exact ⟨b, b1, by omega, b2, b3, b4⟩
   ·simp at h
theorem okWide_aggS {w : World} {r : Reach} {base : Nat} {t : TypeId} {v : Value} {fs : Array Field} (hu : P.underlying t = some (.struct fs)) (h : Value.okWide P w r base t v) : ∃ cs, v = .agg cs := by
 unfold Value.okWide at h
 rw [hu] at h
 obtain ⟨cs, h1, _⟩ := h
 exact ⟨cs, h1⟩
theorem cells?_spec {w : World} {a : Addr} {n : Nat} {cs : List Value} (h : w.cells? 0 a n = some cs) : cs.length = n ∧ ∀ j, j < n → w.cell? (a.add j) = cs[j]? := by
 simp only [World.cells?, Nat.zero_le, if_true] at h
 obtain ⟨h1, h2⟩ := mapM_spec h
 refine ⟨by simpa using h1, fun j hj => ?_⟩
 obtain ⟨y, hy, hc⟩ := h2 j j (by simp [hj])
 rw [hy, hc]
theorem cell_some {w : World} {a : Addr} {x : Value} (h : w.cell? a = some x) : a.spot = none ∧ a.block < w.heap.size := by
 unfold World.cell? at h
 cases hb : w.heap[a.block]? with
 | none => rw [hb] at h; simp at h
 | some ob =>
   rw [hb] at h
   cases ob with
   | cells c t fr =>
     simp only at h
     split at h
     ·simp at h
     ·rename_i hs
      exact ⟨by simpa using hs, (Array.getElem?_eq_some_iff.1 hb).1⟩
   | _ => simp at h
theorem opSlice {t e : TypeId} {m : Nat} {α : Type} {f : α → List AV} {p : α → Prop} (hu : P.underlying t = some (.slice e)) (hm : P.cellsOf e = m) (hm0 : 0 < m) (o : OpC P e m α f p) :
   OpC P t 1 (List α) (fun l => [.sl m (l.map f)]) (fun l => (∀ x ∈ l, p x) ∧ l.length ≤ maxLen) := by
 intro H enc w sp held fuel cs x h
 cases fuel with
 | zero => simp [DataW.trod] at h
 | succ fuel =>
   simp only [DataW.trod, hu] at h
   split at h
   case h_7 =>
     refine ⟨[], ⟨fun x hx => by simp at hx, Nat.zero_le _⟩, rfl, rfl, fun c hc => by simp at hc; subst hc; rfl, fun j av c hj hc => ?_⟩
     cases j with
     | zero => simp at hj hc; subst hj; subst hc; exact .sl0 _ _ _
     | succ j => simp at hj
   case h_8 e' a len cap he' =>
     simp only [TypeDesc.slice.injEq, Option.some.injEq] at he'
     subst he'
     split at h
     case isFalse => simp at h
     rename_i hc
     simp only [Option.bind_eq_some_iff, Option.map_eq_some_iff] at h
     obtain ⟨elems, hel, _⟩ := h
     obtain ⟨h1, h2⟩ := mapM_spec hel
     have key : ∀ i, i < len → ∃ y, p y ∧ (f y).length = m ∧ ∃ cs : List Value, cs.length = m ∧ (∀ c ∈ cs, c.oneCell' = true) ∧ (∀ j, j < m → w.cell? ((a.add (i * m)).add j) = cs[j]?) ∧ ∀ (j : Nat) av c, (f y)[j]? = some av → cs[j]? = some c → Rep (FAll w) w av c := by
       intro i hi
       obtain ⟨y, _, hy⟩ := h2 i i (by simp [hi])
       rw [hm] at hy
       simp only [Option.bind_eq_some_iff] at hy
       obtain ⟨cs, hcs, hy⟩ := hy
       obtain ⟨c1, c2⟩ := cells?_spec hcs
       obtain ⟨b, b1, b2, b3, b4, b5⟩ := o H enc w sp held fuel cs y hy
       exact ⟨b, b1, b3, cs, b2, b4, c2, b5⟩
     obtain ⟨l, l1, l2⟩ := list_choose len key
     have hlp : ∀ x ∈ l, p x := fun x hx => by
       obtain ⟨i, hi⟩ := List.getElem?_of_mem hx
       exact (l2 i x hi).1
     refine ⟨l, ⟨hlp, by omega⟩, rfl, rfl, fun c hc => by simp at hc; subst hc; rfl, fun j av c hj hc => ?_⟩
     cases j with
     | succ j => simp at hj
     | zero =>
       simp at hj hc
       subst hj
       subst hc
       by_cases hl0 : len = 0
       ·subst hl0
        have : l = [] := List.eq_nil_of_length_eq_zero l1
        subst this
        exact .sl0 _ _ _
       ·obtain ⟨y0, hy0, _, cs0, k1, _, k2, _⟩ := key 0 (by omega)
        have hfirst := k2 0 hm0
        have hadd : (a.add (0 * m)).add 0 = a := by simp [Addr.add]
        rw [hadd] at hfirst
        have hs := cell_some (w := w) (a := a) (x := cs0[0]) (by rw [hfirst]; simp)
        obtain ⟨ab, ao, as⟩ := a
        simp only at hs
        obtain ⟨rfl, hlt⟩ := hs
        have hX : ∀ i j, i < len → j < m → ∃ c, w.cell? ⟨ab, ao + (i * m + j), none⟩ = some c := by
          intro i j hi hj
          obtain ⟨y, _, _, cs, q1, _, q2, _⟩ := key i hi
          have := q2 j hj
          rw [add_none, add_none, Nat.add_assoc] at this
          exact ⟨cs[j], by rw [this]; simp⟩
        have hlen : (l.map f).length = len := by simp [l1]
        have main : Rep (FAll w) w (.sl m (l.map f)) (.slice (some ⟨ab, ao, none⟩) (l.map f).length cap) := by
          refine .sl m (l.map f) ab ao cap (fun i j => (w.cell? ⟨ab, ao + (i * m + j), none⟩).getD undef) hlt (by rw [hlen]; exact hc.2.1) (fun e he => ?_) (fun i j hi hj => ?_) (fun i j hi hj => ?_) (fun i j e av he hav => ?_)
          ·obtain ⟨y, hy, rfl⟩ := List.mem_map.1 he
           obtain ⟨i, hi⟩ := List.getElem?_of_mem hy
           exact (l2 i y hi).2.1
          ·rw [hlen] at hi
           obtain ⟨c, hc⟩ := hX i j hi hj
           rw [hc]; rfl
          ·rw [hlen] at hi
           obtain ⟨y, _, _, cs, q1, q3, q2, _⟩ := key i hi
           have := q2 j hj
           rw [add_none, add_none, Nat.add_assoc] at this
           rw [this, List.getElem?_eq_getElem (by omega)]
           exact q3 _ (List.getElem_mem _)
          ·rw [List.getElem?_map] at he
           cases hy : l[i]? with
           | none => rw [hy] at he; simp at he
           | some y =>
             rw [hy] at he
             simp only [Option.map_some, Option.some.injEq] at he
             subst he
             obtain ⟨_, g1, cs, q1, _, q2, q4⟩ := l2 i y hy
             have hj : j < m := by rw [← g1]; exact (List.getElem?_eq_some_iff.1 hav).1
             have := q2 j hj
             rw [add_none, add_none, Nat.add_assoc] at this
             rw [this, List.getElem?_eq_getElem (by omega)]
             exact q4 j av _ hav (List.getElem?_eq_getElem (by omega))
        rw [hlen] at main
        exact main
   all_goals first | (simp at h; done) | (rename_i hq; simp at hq; done) | (rename_i hq _; simp at hq; done)
theorem cells_one {v : Value} (h : v.oneCell' = true) : v.cells.toList = [v] := by cases v <;> simp_all [Value.oneCell', Value.cells]
theorem argOne {H : Type} {enc : TypeId × Value → H} {w : World} {sp : Nat → Bool} {held : Bool} {t : TypeId} {α : Type} {g : α → AV} {p : α → Prop} {v : Value} {d : DataW H} {ps : List MemPlace} (o : OpC P t 1 α (fun a => [g a]) p) (hv : v.oneCell' = true) (h : DataW.Trod enc P w 0 sp held t v d ps) :
   ∃ a, p a ∧ Rep (FAll w) w (g a) v := by
 obtain ⟨fuel, hf⟩ := h
 rw [cells_one hv] at hf
 obtain ⟨a, h1, _, _, _, h5⟩ := o H enc w sp held fuel _ _ hf
 exact ⟨a, h1, h5 0 _ v rfl rfl⟩
theorem argAgg {H : Type} {enc : TypeId × Value → H} {w : World} {sp : Nat → Bool} {held : Bool} {t : TypeId} {n : Nat} {α : Type} {f : α → List AV} {p : α → Prop} {cs : Array Value} {d : DataW H} {ps : List MemPlace} (o : OpC P t n α f p) (h : DataW.Trod enc P w 0 sp held t (.agg cs) d ps) :
   ∃ a, p a ∧ Rep (FAll w) w (.agg (f a)) (.agg cs) := by
 obtain ⟨fuel, hf⟩ := h
 obtain ⟨a, h1, h2, h3, h4, h5⟩ := o H enc w sp held fuel _ _ hf
 have hc : (Value.agg cs).cells = cs := rfl
 rw [hc] at h2 h4 h5
 exact ⟨a, h1, .agg _ cs (by rw [h3, ← h2]; simp) (fun x hx => h4 x (by simpa using hx)) (fun j av x hj hx => h5 j av x hj (by simpa using hx))⟩
theorem reps_nil {F : Nat → Prop} {w : World} : Reps F w [] #[] := ⟨rfl, fun i av x h => by simp at h⟩
theorem reps_cons {F : Nat → Prop} {w : World} {av : AV} {l : List AV} {v : Value} {vs : List Value} (h : Rep F w av v) (hs : Reps F w l vs.toArray) : Reps F w (av :: l) (v :: vs).toArray := by
 refine ⟨by simpa using hs.1, fun i aw x hi hx => ?_⟩
 cases i with
 | zero => simp at hi hx; subst hi; subst hx; exact h
 | succ i => exact hs.2 i aw x (by simpa using hi) (by simpa using hx)
end A
end Go.Proofs.YtgdfppjapnpcgaaDoor
namespace Go.Proofs.YtgdfppjapnpcgaaDoor
namespace A
variable {P : Program} {N : Nat} {env : Env} {h : List HA} {K : Cont} {X : List (Nat × Cont)} {Rt : Cont}
/-- What a call leaves goes with what it was not handed. -/
theorem R.frame {F F' : Nat → Prop} {hin hfr h' : List HA} {w w' : World} (hr1 : R F (hin ++ hfr) w) (hR' : R F' h' w') (hE : Ext F hin w F' h' w') : R F' (h' ++ hfr) w' ∧ Ext F (hin ++ hfr) w F' (h' ++ hfr) w' := by
 have hnd : (owns hin ++ owns hfr).Nodup := by rw [← owns_append]; exact hr1.nd
 have hrin : R F hin w := ⟨fun x hx => hr1.rep x (by simp [hx]), (List.nodup_append.1 hnd).1, fun b hb => hr1.lt b (by simp [owns_append, hb]), fun b hb => ⟨(hr1.sep b hb).1, fun hm => (hr1.sep b hb).2 (by simp [owns_append, hm])⟩⟩
 have hfrb : ∀ b ∈ owns hfr, b ∉ owns hin := fun b hb hm => (List.nodup_append.1 hnd).2.2 b hm b hb rfl
 have hkeepfr : ∀ b ∈ owns hfr, w'.heap[b]? = w.heap[b]? := fun b hb => hE.keep b (hr1.lt b (by simp [owns_append, hb])) (hfrb b hb)
 have hset := hrin.settled hE
 refine ⟨⟨fun y hy => ?_, ?_, ?_, ?_⟩, hE.os, hE.output, hE.tape, hE.size, fun b hb hn => hE.keep b hb (fun hm => hn (by simp [owns_append, hm])), ?_, hE.mono, ?_⟩
 ·rcases List.mem_append.1 hy with hy | hy
  ·exact hR'.rep y hy
  ·exact (hr1.rep y (by simp [hy])).mono hE.mono hset (fun b hb => hkeepfr b (List.mem_flatMap.2 ⟨y, hy, hb⟩))
 ·rw [owns_append]
  refine List.nodup_append.2 ⟨hR'.nd, (List.nodup_append.1 hnd).2.1, ?_⟩
  rintro b hb c hc rfl
  rcases hE.sub b hb with h1 | h1
  ·exact hfrb b hc h1
  ·have := hr1.lt b (by simp [owns_append, hc]); omega
 ·intro b hb
  rw [owns_append] at hb
  rcases List.mem_append.1 hb with hb | hb
  ·exact hR'.lt b hb
  ·exact Nat.lt_of_lt_of_le (hr1.lt b (by simp [owns_append, hb])) hE.size
 ·intro b hb
  refine ⟨(hR'.sep b hb).1, fun hm => ?_⟩
  rw [owns_append] at hm
  rcases List.mem_append.1 hm with hm | hm
  ·exact (hR'.sep b hb).2 hm
  ·rcases hE.new b hb with h1 | h1 | h1
   ·exact (hr1.sep b h1).2 (by simp [owns_append, hm])
   ·exact hfrb b hm h1
   ·have := hr1.lt b (by simp [owns_append, hm]); omega
 ·intro b hb
  rw [owns_append] at hb ⊢
  rcases List.mem_append.1 hb with hb | hb
  ·rcases hE.sub b hb with h1 | h1
   ·exact .inl (List.mem_append_left _ h1)
   ·exact .inr h1
  ·exact .inl (List.mem_append_right _ hb)
 ·intro b hb
  rcases hE.new b hb with h1 | h1 | h1
  ·exact .inl h1
  ·exact .inr (.inl (by rw [owns_append]; exact List.mem_append_left _ h1))
  ·exact .inr (.inr h1)
section
variable {α : Type}
end
end A
end Go.Proofs.YtgdfppjapnpcgaaDoor
namespace Go.Proofs.YtgdfppjapnpcgaaDoor
namespace A
variable {P : Program} {N : Nat} {env : Env} {h : List HA} {K : Cont} {X : List (Nat × Cont)} {Rt : Cont}
/-- A bound of a slice expression: left out, or a number. -/
def BoundIs (env : Env) (x : Option Operand) (z n : Nat) : Prop := (x = none ∧ n = z) ∨ ∃ y k, x = some y ∧ ev env y = some (.v (.int k (n : Int)))
theorem bdN {z n : Nat} (h : n = z) : BoundIs env none z n := .inl ⟨rfl, h⟩
theorem bdI {y : Operand} {k : IntKind} {z n : Nat} (h : ev env y = some (.v (.int k (n : Int)))) : BoundIs env (some y) z n := .inr ⟨y, k, rfl, h⟩
theorem run_bounds {F : Nat → Prop} {a : Act} {w : World} (s : Sat N F env h a w) {lo hi : Option Operand} {l m len cap : Nat} (hl : BoundIs env lo 0 l) (hm : BoundIs env hi len m) (h1 : l ≤ m) (h2 : m ≤ cap) (b : Bool) (w' : World) :
   (Instr.sliceBounds b len cap (lo.map a.eval) (hi.map a.eval) none).run P w' = .ok (l, m, cap) w' := by
 have e1 : ∀ (y : Operand) (k : IntKind) (n : Nat), ev env y = some (.v (.int k (n : Int))) → a.eval y = .int k n := fun y k n hy => by
   have := s.ev hy
   generalize a.eval y = v at this
   cases this
   rfl
 have e2 : ∀ (k : IntKind) (n y : Nat) (c : BoundsCode), n ≤ y → (Instr.sliceBound (.int k n) y c).run P w' = .ok n w' := fun k n y c hn => by
   simp only [Instr.sliceBound, asIntOf, Sem.run_bind, Sem.run_pure, Result.andThen_ok]
   rw [if_pos ⟨by omega, by omega⟩]
   simp
 unfold Instr.sliceBounds
 rcases hl with ⟨rfl, rfl⟩ | ⟨y, k, rfl, hy⟩ <;> rcases hm with ⟨rfl, rfl⟩ | ⟨z, k', rfl, hz⟩
 ·simp [Sem.run_bind, Result.andThen]
 ·simp only [Option.map_none, Option.map_some, e1 z k' m hz, Sem.run_bind, Sem.run_pure, Result.andThen_ok, e2 k' m cap _ h2]
 ·simp only [Option.map_none, Option.map_some, e1 y k l hy, Sem.run_bind, Sem.run_pure, Result.andThen_ok, e2 k l _ _ h1]
 ·simp only [Option.map_some, e1 y k l hy, e1 z k' m hz, Sem.run_bind, Sem.run_pure, Result.andThen_ok, e2 k' m cap _ h2, e2 k l m _ h1]
theorem pSlice {o : Oper} {t : TypeId} {x : Operand} {lo hi : Option Operand} {sz l m : Nat} {es : List (List AV)} (ho : o.op = .slice t x lo hi none) (hx : ev env x = some (.sl sz es)) (ht : elemSize P t = some sz) (hl : BoundIs env lo 0 l) (hm : BoundIs env hi es.length m)
   (h1 : l ≤ m) (h2 : m ≤ es.length) : APure P N o env (.sl sz ((es.drop l).take (m - l))) := by
 intro F h a w st
 have hr := st.ev hx
 generalize hv : a.eval x = v at hr
 obtain ⟨el, g, hu, hs⟩ := elemSize_spec ht
 have hlen : ((es.drop l).take (m - l)).length = m - l := by simp; omega
 cases hr with
 | sl0 _ a0 c =>
   simp only [List.length_nil, Nat.le_zero] at h2
   obtain rfl : m = 0 := h2
   obtain rfl : l = 0 := by omega
   refine ⟨.slice (if c = 0 then a0 else a0.map (·.add (0 * sz))) 0 c, .sl0 _ _ _, fun w' => ?_⟩
   simp only [execOp, ho, hv, Instr.sliceAt, Instr.slice, Sem.run_bind, Sem.run_pure, Result.andThen_ok, run_underlying' hu, Option.map_none]
   have := run_bounds (P := P) st hl (len := 0) (cap := c) hm (by omega) (by omega) true w'
   simp only [this, Result.andThen_ok, run_sizeOf hs, Sem.run_bind, Sem.run_pure]
   simp
 | sl _ _ b p c X hF hc hz hX h1' hR =>
   have hrun : ∀ w', (execOp a.eval o).run P w' = .ok (.value (.slice (if c = l then some ⟨b, p, none⟩ else some ⟨b, p + l * sz, none⟩) (m - l) (c - l))) w' := fun w' => by
     simp only [execOp, ho, hv, Instr.sliceAt, Instr.slice, Sem.run_bind, Sem.run_pure, Result.andThen_ok, run_underlying' hu, Option.map_none]
     have := run_bounds (P := P) st hl (len := es.length) (cap := c) hm h1 (by omega) true w'
     simp only [this, Result.andThen_ok, run_sizeOf hs, Sem.run_bind, Sem.run_pure]
     simp [add_none]
   by_cases hlm : l = m
   ·subst hlm
    refine ⟨_, ?_, hrun⟩
    simp only [Nat.sub_self, List.take_zero]
    exact .sl0 _ _ _
   ·have hne : ¬ c = l := by omega
    rw [if_neg hne] at hrun
    refine ⟨_, ?_, hrun⟩
    have hget : ∀ i, i < m - l → ((es.drop l).take (m - l))[i]? = es[l + i]? := fun i hi => by rw [List.getElem?_take, if_pos hi, List.getElem?_drop]
    have := Rep.sl (F := F) (w := w) sz ((es.drop l).take (m - l)) b (p + l * sz) (c - l) (fun i j => X (l + i) j) hF (by rw [hlen]; omega) (fun e he => hz e (List.mem_of_mem_drop (List.mem_of_mem_take he)))
      (fun i j hi hj => by rw [hlen] at hi; have := hX (l + i) j (by omega) hj; rw [← this]; congr 2; rw [Nat.add_mul]; omega)
      (fun i j hi hj => h1' _ _ (by rw [hlen] at hi; omega) hj)
      (fun i j e av hi hj => by
        have hlt : i < m - l := by rw [← hlen]; exact (List.getElem?_eq_some_iff.1 hi).1
        rw [hget i hlt] at hi
        exact hR (l + i) j e av hi hj)
    rw [hlen] at this
    exact this
theorem spl_last {x : HA} : ∀ {l : List HA}, Spl (l ++ [x]) x l
 | [] => .hd
 | _ :: _ => .tl spl_last
theorem tk_refl : ∀ {h : List HA}, Tk h h []
 | [] => .nil
 | _ :: _ => .cons .hd tk_refl
open Go.Proofs.YtgdfppjapnpcgaaDoorW.PrintLast (wpAnyLast one_ two_ three_ readyB readyT)
def WantT (N : Nat) (ops : Array Oper) (o : Oper) (env : Env) (h : List HA) : Prop := ∀ F a w, Sat N F env h a w → Region.wanted o (yielded ops a.tmps) = true
theorem wantN {ops : Array Oper} {o : Oper} (hg : o.guard = none) : WantT N ops o env h := fun _ _ _ _ => by simp [Region.wanted, hg]
def AStep (P : Program) (N : Nat) (ops : Array Oper) (ds : List Nat) (n : Nat) (l' : Array Bool) (o : Oper) (E0 : Env) (h0 : List HA) (env : Env) (h : List HA) (K : Cont) (X : List (Nat × Cont)) (Rt : Cont) : Prop :=
 ∀ (B : Base) F0 w0 F a w, Sat N F0 E0 h0 a w0 → Sat N F env h a w → Ext B.F B.h B.w F h w → a.defers = B.D → (∀ b, F0 b → F b) → (∀ b ∈ owns h0, b ∈ owns h ∨ F b) → Agree F0 h0 w0 w →
   ∀ K' : Act → World → Prop, Shut (∀ a' w', Agree F0 h0 w0 w' → (Agree F0 h0 w0 w' → wpAnyLast P .any ops (PostOf N B K X Rt) (Agree F0 h0 w0) ds n l' a' w') → K' a' w') →
     if Region.wanted o (yielded ops a.tmps) = true then Oper.wp P o a w K' (PostOf N B K X Rt) else K' (a.put o.dst undef) w
theorem stQ {ops : Array Oper} {ds : List Nat} {n : Nat} {o : Oper} {l' : Array Bool} {E0 : Env} {h0 : List HA} (hw : WantT N ops o env h) (hN : ∀ t, o.dst = some t → t < N)
   (hk : AOpQ P N o env h (fun env' h' => ADraw2 P N ops ds n l' (match o.dst with | some t => del t E0 | none => E0) h0 env' h' K X Rt)) : AStep P N ops ds n l' o E0 h0 env h K X Rt := by
 intro B F0 w0 F a w s0 s e hdef hF hO hS K' hK'
 rw [if_pos (hw F a w s)]
 refine Oper.wp_mono ?_ (puts o a w _ _ (hk B F a w _ s e hdef))
 intro a' w' ⟨⟨hd', F', env', h', hk', s', e', hag, hF', hO'⟩, x, D, ha⟩
 have hS' : Agree F0 h0 w0 w' := fun b hb => by
   rw [hag b (by rcases hb with hb | hb; exact .inl (hF b hb); exact (hO b hb).symm), hS b hb]
 refine hK'.out a' w' hS' (fun _ => hk' B F0 w0 F' a' w' (s0.delD hN ha) s' e' hd' (fun b hb => hF' b (hF b hb)) (fun b hb => ?_) hS')
 rcases hO b hb with h1 | h1
 ·exact hO' b h1
 ·exact .inr (hF' b h1)
/-- An operation that changes what is no part of what stood at the start. -/
theorem stA {ops : Array Oper} {ds : List Nat} {n : Nat} {o : Oper} {l' : Array Bool} {E0 : Env} {h0 hx rest r0 : List HA} (hw : WantT N ops o env h) (hN : ∀ t, o.dst = some t → t < N) (ht : Tk h hx rest) (ht0 : Tk rest h0 r0)
   (hk : AOp P N o env hx (fun env' h' => ADraw2 P N ops ds n l' (match o.dst with | some t => del t E0 | none => E0) h0 env' (h' ++ rest) K X Rt)) : AStep P N ops ds n l' o E0 h0 env h K X Rt := by
 intro B F0 w0 F a w s0 s e hdef hF hO hS K' hK'
 rw [if_pos (hw F a w s)]
 have rp := s.r.perm ht.perm
 have hnd : (owns hx ++ owns rest).Nodup := by rw [← owns_append]; exact rp.nd
 refine Oper.wp_mono ?_ (puts o a w _ _ (hk ⟨F, hx, w, a.defers⟩ F a w _ ⟨s.r.sub ht, s.size, s.env⟩ (.refl F hx w) rfl))
 intro a' w' ⟨⟨hd', F', env', h', hk', s', e'⟩, x, D, ha⟩
 obtain ⟨R2, E2⟩ := rp.frame s'.r e'
 have hrest : ∀ b ∈ owns h0, b ∈ owns rest := fun b hb => (owns_perm ht0.perm).mem_iff.2 (by rw [owns_append]; exact List.mem_append_left _ hb)
 have hS' : Agree F0 h0 w0 w' := fun b hb => by
   have hk1 : w'.heap[b]? = w.heap[b]? := by
     rcases hb with hb | hb
     ·exact e'.keep b (s.r.sep b (hF b hb)).1 (fun hm => (s.r.sep b (hF b hb)).2 ((owns_perm ht.perm).mem_iff.2 (by rw [owns_append]; exact List.mem_append_left _ hm)))
     ·exact e'.keep b (rp.lt b (by rw [owns_append]; exact List.mem_append_right _ (hrest b hb))) (fun hm => (List.nodup_append.1 hnd).2.2 b hm b (hrest b hb) rfl)
   rw [hk1, hS b hb]
 refine hK'.out a' w' hS' (fun _ => hk' B F0 w0 F' a' w' (s0.delD hN ha) ⟨R2, s'.size, s'.env⟩ (e.trans (E2.permL ht.perm.symm)) (hd'.trans hdef) (fun b hb => e'.mono b (hF b hb)) (fun b hb => .inl (by rw [owns_append]; exact List.mem_append_right _ (hrest b hb))) hS')
theorem eOneS {ops : Array Oper} {ds : List Nat} {n i : Nat} {o : Oper} {l : Array Bool} {E0 : Env} {h0 : List HA} (l' : Array Bool) (hi : ops[i]? = some o) (hc : readyB .any ops l l' i = true) (hd : i ∉ ds)
   (hk : AStep P N ops ds n l' o E0 h0 env h K X Rt) : ADraw2 P N ops ds (n + 1) l E0 h0 env h K X Rt := by
 intro B F0 w0 F a w s0 s e hdef hF hO hS
 exact one_ l' hi rfl hc hd (fun K' hK' => hk B F0 w0 F a w s0 s e hdef hF hO hS K' hK')
theorem eTwoS {ops : Array Oper} {ds : List Nat} {n i j : Nat} {oi oj : Oper} {l : Array Bool} {E0 : Env} {h0 : List HA} (li lj : Array Bool) (hi : ops[i]? = some oi) (hj : ops[j]? = some oj) (hc : (Region.ready .any ops l == [i, j] && l.setIfInBounds i true == li && l.setIfInBounds j true == lj) = true) (hdi : i ∉ ds) (hdj : j ∉ ds)
   (hki : AStep P N ops ds n li oi E0 h0 env h K X Rt) (hkj : AStep P N ops ds n lj oj E0 h0 env h K X Rt) : ADraw2 P N ops ds (n + 1) l E0 h0 env h K X Rt := by
 intro B F0 w0 F a w s0 s e hdef hF hO hS
 exact two_ li lj hi hj rfl rfl hc hdi hdj (fun K' hK' => hki B F0 w0 F a w s0 s e hdef hF hO hS K' hK') (fun K' hK' => hkj B F0 w0 F a w s0 s e hdef hF hO hS K' hK')
theorem eThreeS {ops : Array Oper} {ds : List Nat} {n i j k : Nat} {oi oj ok : Oper} {l : Array Bool} {E0 : Env} {h0 : List HA} (li lj lk : Array Bool) (hi : ops[i]? = some oi) (hj : ops[j]? = some oj) (hk : ops[k]? = some ok) (hc : (Region.ready .any ops l == [i, j, k] && l.setIfInBounds i true == li && l.setIfInBounds j true == lj && l.setIfInBounds k true == lk) = true) (hdi : i ∉ ds) (hdj : j ∉ ds) (hdk : k ∉ ds)
   (hki : AStep P N ops ds n li oi E0 h0 env h K X Rt) (hkj : AStep P N ops ds n lj oj E0 h0 env h K X Rt) (hkk : AStep P N ops ds n lk ok E0 h0 env h K X Rt) : ADraw2 P N ops ds (n + 1) l E0 h0 env h K X Rt := by
 intro B F0 w0 F a w s0 s e hdef hF hO hS
 exact three_ li lj lk hi hj hk rfl rfl rfl hc hdi hdj hdk (fun K' hK' => hki B F0 w0 F a w s0 s e hdef hF hO hS K' hK') (fun K' hK' => hkj B F0 w0 F a w s0 s e hdef hF hO hS K' hK') (fun K' hK' => hkk B F0 w0 F a w s0 s e hdef hF hO hS K' hK')
open Go.Proofs.YtgdfppjapnpcgaaDoorW.PrintLast (ready_eq set_of)
theorem Tab.two {ops : Array Oper} {T : Bool × List (List Nat × List Nat)} {Bs : List Nat} {l li lj : Array Bool} {i j : Nat} (t : Tab ops T Bs) (h : (readyT T.2 l.toList == [i, j] && l.toList.set i true == li.toList && l.toList.set j true == lj.toList) = true) :
   (Region.ready .any ops l == [i, j] && l.setIfInBounds i true == li && l.setIfInBounds j true == lj) = true := by
 have hT := t.t
 subst hT
 simp only [Bool.and_eq_true] at h ⊢
 exact ⟨⟨by rw [ready_eq]; exact h.1.1, set_of h.1.2⟩, set_of h.2⟩
theorem Tab.three {ops : Array Oper} {T : Bool × List (List Nat × List Nat)} {Bs : List Nat} {l li lj lk : Array Bool} {i j k : Nat} (t : Tab ops T Bs) (h : (readyT T.2 l.toList == [i, j, k] && l.toList.set i true == li.toList && l.toList.set j true == lj.toList && l.toList.set k true == lk.toList) = true) :
   (Region.ready .any ops l == [i, j, k] && l.setIfInBounds i true == li && l.setIfInBounds j true == lj && l.setIfInBounds k true == lk) = true := by
 have hT := t.t
 subst hT
 simp only [Bool.and_eq_true] at h ⊢
 exact ⟨⟨⟨by rw [ready_eq]; exact h.1.1.1, set_of h.1.1.2⟩, set_of h.1.2⟩, set_of h.2⟩
end A
end Go.Proofs.YtgdfppjapnpcgaaDoor
