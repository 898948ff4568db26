/- Whatever the input, waymarklaw36.EcmpLeast returns true, and each argument reads as it did. -/
import Derived.Shelf.SlSortCmp.NoneTotal
import Derived.Shelf.SlSortCmp.WholeK
import Derived.Test.YtmcannmjielalaaS12EcmpLeast
set_option linter.unusedVariables false
set_option linter.unusedSimpArgs false
namespace Go.Proofs.Ytmcannmjielalaa
namespace A
open Go.Sort Go.Shelf Go.Lib Go.RowKit
theorem run_enter {P : Program} {g : FuncId} (hb : HasBody P g) (args : Array Value) (w : World) : (callFunc g args).run P w = .ok (.enter g args) w := by
  obtain ⟨fn, h1, h2, h3⟩ := hb
  have hn' : ¬ fn.name = "runtime.NumGoroutine" := by simpa using h2
  have hb' : ¬ fn.body = none := fun h => by rw [h] at h3; cases h3
  simp [callFunc, h1, hn', hb']
theorem rep_v {F : Nat → Prop} {w : World} {x y : Value} (h : Rep F w (.v x) y) : y = x := by cases h; rfl
theorem heap_sortedK {w : World} {b n : Nat} {os : Array Obj} {cur D : Array Value} {e : TypeId} (hb : w.heap[b]? = some (.cells cur e (0, 0))) :
    (grow (putRow id (Sort.ahead w n) b 0 D) os).heap[b]? = some (.cells (putCells id 0 D cur) e (0, 0)) := by
  have hg : b < w.heap.size := (Array.getElem?_eq_some_iff.1 hb).1
  rw [heap_grow_old _ _ (by simpa using hg)]
  simp [putRow, mapBlock, Sort.ahead, Array.getElem?_modify, hb, onCells]
theorem grownBy_sortedK {w : World} {b n : Nat} {os : Array Obj} (D : Array Value) : w.grownBy (grow (putRow id (Sort.ahead w n) b 0 D) os) (some b) := by
  refine ⟨rfl, rfl, rfl, by simp, fun k hk hne => ?_⟩
  rw [heap_grow_old _ _ (by simpa using hk)]
  have : b ≠ k := fun e => hne (by rw [e])
  simp [putRow, mapBlock, Sort.ahead, Array.getElem?_modify, this]
theorem take_putCellsK (cur D : Array Value) (h : D.size ≤ cur.size) : (putCells id 0 D cur).toList.take D.size = D.toList := by
  apply List.ext_getElem?
  intro j
  by_cases hj : j < D.size
  · rw [List.getElem?_take_of_lt hj, Array.getElem?_toList]
    simp [putCells, hj, show j < cur.size by omega]
  · rw [List.getElem?_take_eq_none (by omega), List.getElem?_eq_none (by simp; omega)]
theorem cmp_lays {α : Type} [Inhabited α] {P : Program} {g : FuncId} {fC : α → List AV} {enc : α → List Value} {k : Nat} {cf : α → α → Int} {b size : Nat} {w : World} (hfe : ∀ x, fC x = (enc x).map .v) (h1 : ∀ x, ∀ v ∈ enc x, v.oneCell' = true)
    (hT : ∀ x y, Triple P g [.agg (fC x), .agg (fC y)] [] (Is (.int (cf x y)) [])) : CmpLays P g #[] enc k cf b 0 size w := by
  intro m os dk hs x y
  have hagg : ∀ z, Rep (fun _ => False) (sortWorldK enc k w b 0 m dk os) (.agg (fC z)) (.agg (enc z).toArray) := fun z => by
    refine .agg _ _ (by rw [hfe]; simp) (fun v hv => h1 z v (by simpa using hv)) (fun j av v hj hv => ?_)
    rw [hfe, List.getElem?_map, Option.map_eq_some_iff] at hj
    obtain ⟨u, hu, rfl⟩ := hj
    have : (enc z)[j]? = some v := by simpa using hv
    rw [hu] at this
    cases this
    exact .v _
  refine ((hT x y).2 (fun _ => False) (sortWorldK enc k w b 0 m dk os) #[.agg (enc x).toArray, .agg (enc y).toArray] ⟨fun x hx => by simp at hx, by simp, fun b hb => by simp at hb, fun b hb => hb.elim⟩ ?_).mono ?_
  · exact reps_cons (vs := [.agg (enc y).toArray]) (hagg x) (reps_cons (vs := []) (hagg y) reps_nil)
  · rintro ex w' ⟨r, v, h', F', rfl, ⟨rfl, rfl⟩, hr, hR, hE⟩
    have := rep_v hr
    subst this
    generalize hW : sortWorldK enc k w b 0 m dk os = W at hE
    refine ⟨rfl, w'.drawn - W.drawn, w'.heap.extract W.heap.size w'.heap.size, ?_⟩
    have hd := hE.dr
    have hh : w'.heap = W.heap ++ w'.heap.extract W.heap.size w'.heap.size := by
      apply Array.ext_getElem?
      intro j
      by_cases hj : j < W.heap.size
      · rw [Array.getElem?_append_left hj]
        exact hE.keep j hj (by simp)
      · rw [Array.getElem?_append_right (by omega), Array.getElem?_extract]
        by_cases hj2 : j < w'.heap.size
        · rw [if_pos (by omega)]
          congr 1
          omega
        · rw [if_neg (by omega), Array.getElem?_eq_none (by omega)]
    obtain ⟨hp, tp, dr, ww, ou⟩ := w'
    obtain ⟨hp0, tp0, dr0, ww0, ou0⟩ := W
    have e1 := hE.os
    have e2 := hE.output
    have e3 := hE.tape
    simp only at e1 e2 e3 hd hh
    subst e1
    subst e2
    subst e3
    simp only [grow, World.drewN, World.mk.injEq, true_and, and_true]
    exact ⟨hh, by omega⟩
theorem mul_add_div {i j k : Nat} (h : j < k) : (i * k + j) / k = i := by
  rw [Nat.mul_comm, Nat.mul_add_div (by omega), Nat.div_eq_of_lt h, Nat.add_zero]
theorem mul_add_mod {i j k : Nat} (h : j < k) : (i * k + j) % k = j := by
  rw [Nat.mul_comm, Nat.mul_add_mod, Nat.mod_eq_of_lt h]
theorem triple_sortFunc {α : Type} [Inhabited α] {P : Program} {ρ : Ren} {f g : FuncId} (L : SlLaysF0.n6 P ρ) (hf : ρ.f 6 = f) (hb : HasBody P f) {k t : Nat} (ht : ρ.t 24 = t) (hty : tyOf P t = some (k, true)) (h0 : 0 < k) {fC : α → List AV} (enc : α → List Value) (hfe : ∀ x, fC x = (enc x).map .v) (hk : ∀ x, (enc x).length = k) (h1 : ∀ x, ∀ v ∈ enc x, v.oneCell' = true)
    (cf : α → α → Int) (hO : SWO (ltOf cf)) (hT : ∀ x y, Triple P g [.agg (fC x), .agg (fC y)] [] (Is (.int (cf x y)) [])) (hg : HasBody P g) (gg : Option Nat) (c e : Nat) (ws : List α) (hz : ws.length < 4611686018427387904) :
    Triple P f [.v (slV gg ws.length c), .fn (.func g) []] [.sl gg c e k (ws.map fC)] (fun r h' => ∃ ts : List α, ts.Perm ws ∧ ts.Pairwise (fun x y => ltOf cf y x = false) ∧ r = .tup [] ∧ h' = [.sl gg c e k (ts.map fC)]) := by
  subst hf
  subst ht
  refine ⟨hb, fun F w vs hR hreps => ?_⟩
  obtain ⟨hv1, hv2⟩ := hreps
  obtain ⟨x, y, rfl⟩ : ∃ x y, vs = #[x, y] := by
    match vs, hv1 with
    | ⟨[x, y]⟩, _ => exact ⟨x, y, rfl⟩
  have hx := hv2 0 _ x rfl rfl
  have hy := hv2 1 _ y rfl rfl
  have hx := rep_v hx
  subst hx
  obtain rfl : y = .func (.func g) #[] #[] := by
    cases hy with
    | fn _ _ cx hcl _ =>
      obtain rfl : cx = #[] := Array.eq_empty_of_size_eq_zero (by simpa using hcl)
      rfl
  have hha := hR.rep _ (List.mem_singleton.2 rfl)
  have hlen : (ws.map fC).length = ws.length := List.length_map _
  have aE : ∀ w, (isAgg (ρ.t 24)).run P w = .ok true w := fun w => run_isAgg hty w
  have zE : ∀ w, (Go.sizeOf (ρ.t 24)).run P w = .ok k w := fun w => run_sizeOf hty w
  match gg with
  | none =>
    have hn : ws = [] := by
      obtain ⟨xs, ho, _⟩ := hha
      rcases ho.2 with ⟨_, h⟩ | ⟨b, _, _, h, _⟩
      · exact List.eq_nil_of_length_eq_zero (by simpa using h)
      · simp [slV] at h
    subst hn
    refine (AnyF.slices_SortFunc_none L none c (.func (.func g) #[] #[]) w).mono ?_
    rintro ex w' ⟨rfl, rfl⟩
    exact ⟨.tup [], .tuple #[], _, F, rfl, ⟨[], .nil, .nil, rfl, rfl⟩, .tup _ _ rfl (fun j av x hj => by simp at hj), hR, .refl _ _ _⟩
  | some b =>
    obtain ⟨cur, hg0, hnc, hcm, hcs, hyz, hrest⟩ := row_of hha
    obtain ⟨xs, hxl, _, hx1, hxc, hxr⟩ := own_cells hha
    rw [hlen] at hxl hnc
    have hflat : ∀ j, j < ws.length * k → xs[j]? = some ((flatK enc k ws.toArray)[j]!) := fun j hj => by
      have hjx : j < xs.length := by omega
      have hi : j / k < ws.length := by rw [Nat.div_lt_iff_lt_mul h0]; exact hj
      have hm : j % k < k := Nat.mod_lt _ h0
      have e1 : (ws.map fC)[j / k]? = some (fC ws[j / k]) := by simp [hi]
      have e2 : (fC ws[j / k])[j % k]? = some (.v ((enc ws[j / k])[j % k]'(by rw [hk]; exact hm))) := by rw [hfe]; simp [hk, hm]
      have e3 : xs[j / k * k + j % k]? = some xs[j] := by rw [Nat.div_add_mod']; exact List.getElem?_eq_getElem hjx
      have := rep_v (hxr _ _ _ _ _ e1 e2 e3)
      rw [List.getElem?_eq_getElem hjx, this, get_flatK _ _ _ _ (by simpa using hj)]
      simp [hi, hk, hm]
    have hH : HoldsK enc k w b 0 ws.toArray := by
      intro j hj
      have hj' : j < ws.length * k := by simpa using hj
      refine ⟨?_, by simp [World.frozen?, hg0]⟩
      rw [Nat.zero_add]
      exact hxc j _ (hflat j hj')
    have hlt : b < w.heap.size := hR.lt b (by simp [HA.own])
    refine (AnyQ.slices_SortFunc L k aE zE enc hk h1 cf hO g #[] b 0 c ws.toArray w (run_enter hg) (cmp_lays hfe h1 hT) hH hlt (by simpa using hz)).mono ?_
    rintro ex w' ⟨rfl, d', n, os, hp, hs, rfl⟩
    have hsz : d'.size = ws.length := by simpa using hp.1
    have hperm : d'.toList.Perm ws := by
      have := hp.2.2
      simp only [List.size_toArray] at this
      simp only [Array.toList_extract, List.drop_zero, List.extract_eq_take_drop, Nat.sub_zero] at this
      rw [List.take_of_length_le (by simp [hsz]), List.take_of_length_le (by simp)] at this
      exact this
    have hpair : d'.toList.Pairwise (fun x y => ltOf cf y x = false) := by
      rw [List.pairwise_iff_getElem]
      intro i j hi hj hij
      have hj' : j < d'.size := by simpa using hj
      have := hs i j (Nat.zero_le _) hij (by simpa [hsz] using hj')
      rw [getElem!_pos d' j hj', getElem!_pos d' i (by omega)] at this
      simpa using this
    have hgr := grownBy_sortedK (n := n) (os := os) (b := b) (w := w) (flatK enc k d')
    have hset : ∀ k', F k' → (grow (putRow id (Sort.ahead w n) b 0 (flatK enc k d')) os).heap[k']? = w.heap[k']? := fun k' hk' => hgr.block k' (hR.sep k' hk').1 (fun e => (hR.sep k' hk').2 (by simp at e; simp [HA.own, e]))
    have hfs : (flatK enc k d').size = ws.length * k := by simp [hsz]
    have hcap : (flatK enc k d').size ≤ cur.size := by rw [hfs, hcs]; exact Nat.mul_le_mul_right _ hnc
    refine ⟨.tup [], .tuple #[], _, F, rfl, ⟨d'.toList, hperm, hpair, rfl, rfl⟩, .tup _ _ rfl (fun j av x hj => by simp at hj), ⟨fun y hy => ?_, by simp [HA.own], fun k' hk' => ?_, fun k' hk' => ⟨Nat.lt_of_lt_of_le (hR.sep k' hk').1 hgr.size, fun hm => (hR.sep k' hk').2 (by simpa [HA.own] using hm)⟩⟩, ⟨hgr.os, hgr.output, hgr.tape, hgr.size, fun k' hk' hn => hgr.block k' hk' (fun e => hn (by simp at e; simp [HA.own, e])), fun k' hk' => .inl (by simpa [HA.own] using hk'), fun _ h => h, fun _ h => .inl h, by show w.drawn ≤ w.drawn + n; omega⟩⟩
    · rw [List.mem_singleton] at hy
      subst hy
      have e1 : (d'.toList.map fC).length = ws.length := by simp [hsz]
      have hget : ∀ i j v, i < ws.length → j < k → (flatK enc k d').toList[i * k + j]? = some v → ∃ u, d'[i]? = some u ∧ (enc u)[j]? = some v := fun i j v hi hj hv => by
        have hlt2 : i * k + j < d'.size * k := by rw [hsz]; exact idx_lt hi hj
        rw [Array.getElem?_toList, Array.getElem?_eq_getElem (by simpa using hlt2)] at hv
        have hv := Option.some.inj hv
        rw [← getElem!_pos (flatK enc k d') (i * k + j) (by simpa using hlt2), get_flatK _ _ _ _ hlt2, mul_add_div hj, mul_add_mod hj] at hv
        refine ⟨d'[i]!, by rw [getElem!_pos d' i (by omega)]; exact Array.getElem?_eq_getElem (by omega), ?_⟩
        rw [← hv, getElem!_pos (enc d'[i]!) j (by rw [hk]; exact hj)]
        exact List.getElem?_eq_getElem _
      refine ⟨(flatK enc k d').toList, ⟨by rw [Array.length_toList, hfs, e1], .inr ⟨b, c, _, by rw [e1]; rfl, Nat.zero_le _, heap_sortedK hg0, by rw [e1]; exact hnc, hcm, by simp [putCells, hcs], ?_⟩⟩, fun y hy => ?_, fun x hx => ?_, ?_⟩
      · rw [e1, ← hfs]; exact take_putCellsK cur _ hcap
      · obtain ⟨z, _, rfl⟩ := List.mem_map.1 hy; rw [hfe]; simp [hk]
      · obtain ⟨j, hj⟩ := List.mem_iff_getElem?.1 hx
        have hj2 : j < ws.length * k := by have := (List.getElem?_eq_some_iff.1 hj).1; simpa [hsz] using this
        have hm : j % k < k := Nat.mod_lt _ h0
        have := hget (j / k) (j % k) x (by rw [Nat.div_lt_iff_lt_mul h0]; exact hj2) hm (by rw [Nat.div_add_mod']; exact hj)
        obtain ⟨u, _, hu⟩ := this
        exact h1 u x (List.mem_of_getElem? hu)
      · intro i j y av x hi hj hx
        rw [List.getElem?_map, Option.map_eq_some_iff] at hi
        obtain ⟨z, hz, rfl⟩ := hi
        have hil : i < ws.length := by have := (List.getElem?_eq_some_iff.1 hz).1; simpa [hsz] using this
        rw [hfe, List.getElem?_map, Option.map_eq_some_iff] at hj
        obtain ⟨u, hu, rfl⟩ := hj
        have hjk : j < k := by have := (List.getElem?_eq_some_iff.1 hu).1; rwa [hk] at this
        obtain ⟨z', hz', hx'⟩ := hget i j x hil hjk hx
        have : z' = z := by
          rw [Array.getElem?_toList] at hz
          rw [hz] at hz'
          exact (Option.some.inj hz').symm
        subst this
        rw [hu] at hx'
        cases hx'
        exact .v _
    · have : k' = b := by simpa [HA.own] using hk'
      subst this
      exact Nat.lt_of_lt_of_le hlt hgr.size
end A
end Go.Proofs.Ytmcannmjielalaa
set_option linter.unusedVariables false
set_option linter.unusedSimpArgs false
namespace Go.Proofs.Ytmcannmjielalaa
namespace A
structure Wi where
  a : Int
  b : Int
  u : Bool
  ca : Int
  cb : Int
  deriving DecidableEq, Inhabited
theorem srt_ext {α : Type} {r : α → α → Prop} (irr : ∀ a, ¬ r a a) (tr : ∀ a b c, r a b → r b c → r a c) : ∀ {l m : List α}, l.Pairwise r → m.Pairwise r → (∀ a, a ∈ l ↔ a ∈ m) → l = m
  | [], [], _, _, _ => rfl
  | [], b :: m, _, _, h => by have := (h b).2 (by simp); simp at this
  | a :: l, [], _, _, h => by have := (h a).1 (by simp); simp at this
  | a :: l, b :: m, hl, hm, h => by
    rw [List.pairwise_cons] at hl hm
    have e : a = b := by
      rcases List.mem_cons.1 ((h a).1 (by simp)) with e | h1
      · exact e
      · rcases List.mem_cons.1 ((h b).2 (by simp)) with e | h2
        · exact e.symm
        · exact absurd (tr a b a (hl.1 b h2) (hm.1 a h1)) (irr a)
    subst e
    rw [srt_ext irr tr hl.2 hm.2 (fun x => ?_)]
    constructor
    · intro hx
      rcases List.mem_cons.1 ((h x).1 (by simp [hx])) with e | h1
      · subst e; exact absurd (hl.1 x hx) (irr x)
      · exact h1
    · intro hx
      rcases List.mem_cons.1 ((h x).2 (by simp [hx])) with e | h1
      · subst e; exact absurd (hm.1 x hx) (irr x)
      · exact h1
end A
end Go.Proofs.Ytmcannmjielalaa
set_option linter.unusedVariables false
set_option linter.unusedSimpArgs false
namespace Go.Proofs.Ytmcannmjielalaa
namespace A
theorem ze_25 : zeroOf Try.prog 25 = some (.slice none 0 0) := by kernel_rfl
end A
end Go.Proofs.Ytmcannmjielalaa
set_option linter.unusedVariables false
set_option linter.unusedSimpArgs false
namespace Go.Proofs.Ytmcannmjielalaa
namespace A
open Go.Sort Go.Shelf Go.Lib Go.RowKit
/-- Weakening while a region draws: what was owned when its first call began is still owned. -/
theorem eWeak {P : Program} {N : Nat} {env : Env} {h : List HA} {K : Cont} {X : List (Nat × Cont)} {Rt : Cont} {ops : Array Oper} {ds : List Nat} {n : Nat} {l : Array Bool} {E0 : Env} {h0 : List HA} {env' : Env} {h' : List HA} (hw : Weak N env h env' h') (hk : ∀ b ∈ owns h0, b ∈ owns h') (h1 : ADraw2 P N ops ds n l E0 h0 env' h' K X Rt) : ADraw2 P N ops ds n l E0 h0 env h K X Rt := by
  intro B F0 w0 F a w s0 s e d hF hO hA
  obtain ⟨F', s', e'⟩ := hw F a w s
  exact h1 B F0 w0 F' a w s0 s' (e.trans e') d (fun b hb => e'.mono b (hF b hb)) (fun b hb => .inl (hk b hb)) hA
end A
end Go.Proofs.Ytmcannmjielalaa
set_option linter.unusedVariables false
set_option linter.unusedSimpArgs false
set_option linter.unusedSectionVars false
namespace Go.Proofs.Ytmcannmjielalaa
namespace A
variable {P : Program} {N : Nat} {env : Env} {h : List HA} {K : Cont} {X : List (Nat × Cont)} {Rt : Cont}
abbrev FamL := List (Option Nat × Nat × List (List AV))
theorem own_slG (g : Option Nat) (c : Nat) (e : TypeId) (sz : Nat) (es : List (List AV)) : (HA.sl g c e sz es).own = gOwn g := by cases g <;> rfl
theorem own_fam (e : TypeId) (sz : Nat) (L : FamL) : (HA.fam e sz L).own = L.flatMap fun p => gOwn p.1 := rfl
theorem own_famC (e : TypeId) (sz : Nat) (p : Option Nat × Nat × List (List AV)) (L : FamL) : (HA.fam e sz (p :: L)).own = gOwn p.1 ++ (HA.fam e sz L).own := by rw [own_fam, own_fam, List.flatMap_cons]
theorem own_famP {e : TypeId} {sz : Nat} {L L' : FamL} (hp : L.Perm L') : ((HA.fam e sz L).own).Perm (HA.fam e sz L').own := hp.flatMap_right _
/-- The heap read otherwise: what is owned is the same, and all stands for what it says. -/
theorem weak_same {h' : List HA} (ho : (owns h).Perm (owns h')) (hx : ∀ F w, (∀ x ∈ h, HARep F w x) → ∀ x ∈ h', HARep F w x) : Weak N env h env h' := fun F a w s =>
  ⟨F, ⟨s.r.same (ho.nodup_iff.1 s.r.nd) (fun b hb => ho.mem_iff.2 hb) (hx F w s.r.rep), s.size, s.env⟩, .same (fun b hb => ho.mem_iff.2 hb)⟩
theorem weak_famNew (e : TypeId) (sz : Nat) : Weak N env h env (.fam e sz [] :: h) :=
  weak_same (.refl _) (fun F w hh x hx => by
    rcases List.mem_cons.1 hx with rfl | hx
    · exact fun p hp => by simp at hp
    · exact hh x hx)
theorem famTake_same {e : TypeId} {sz : Nat} {L L' : FamL} {g : Option Nat} {c : Nat} {es : List (List AV)} {h' : List HA} (hs : Spl h (.fam e sz L) h') (hp : L.Perm ((g, c, es) :: L')) : (owns h).Perm (owns (.sl g c e sz es :: .fam e sz L' :: h')) ∧ ∀ F w, (∀ x ∈ h, HARep F w x) → ∀ x ∈ (HA.sl g c e sz es :: .fam e sz L' :: h'), HARep F w x := by
  refine ⟨?_, fun F w hh x hx => ?_⟩
  · refine (owns_perm hs.perm).trans ?_
    rw [owns_cons, owns_cons, owns_cons, own_slG, ← List.append_assoc, ← own_famC e sz (g, c, es) L']
    exact (own_famP hp).append_right _
  · have hf : HARep F w (.fam e sz L) := hh _ (spl_mem hs)
    rcases List.mem_cons.1 hx with rfl | hx
    · exact hf (g, c, es) (hp.mem_iff.2 (by simp))
    · rcases List.mem_cons.1 hx with rfl | hx
      · exact fun p hp' => hf p (hp.mem_iff.2 (List.mem_cons_of_mem _ hp'))
      · exact hh x (hs.perm.mem_iff.2 (List.mem_cons_of_mem _ hx))
theorem weak_famTake {e : TypeId} {sz : Nat} {L L' : FamL} {g : Option Nat} {c : Nat} {es : List (List AV)} {h' : List HA} (hs : Spl h (.fam e sz L) h') (hp : L.Perm ((g, c, es) :: L')) : Weak N env h env (.sl g c e sz es :: .fam e sz L' :: h') :=
  weak_same (famTake_same hs hp).1 (famTake_same hs hp).2
theorem weak_famPut {e : TypeId} {sz : Nat} {L L' : FamL} {g : Option Nat} {c : Nat} {es : List (List AV)} {h' : List HA} (hs : Tk h [.sl g c e sz es, .fam e sz L] h') (hp : ((g, c, es) :: L).Perm L') : Weak N env h env (.fam e sz L' :: h') := by
  refine weak_same ?_ (fun F w hh x hx => ?_)
  · refine (owns_perm hs.perm).trans ?_
    rw [owns_append, owns_cons, owns_cons, owns_nil, List.append_nil, owns_cons, own_slG, ← own_famC e sz (g, c, es) L]
    exact (own_famP hp).append_right _
  · have hm : ∀ x, x ∈ ([.sl g c e sz es, .fam e sz L] : List HA) ++ h' → x ∈ h := fun x hx => hs.perm.mem_iff.2 hx
    have h1 : HARep F w (.sl g c e sz es) := hh _ (hm _ (by simp))
    have h2 : HARep F w (.fam e sz L) := hh _ (hm _ (by simp))
    rcases List.mem_cons.1 hx with rfl | hx
    · intro p hp'
      rcases List.mem_cons.1 (hp.mem_iff.2 hp') with rfl | hp'
      · exact h1
      · exact h2 p hp'
    · exact hh x (hm x (List.mem_append_right _ hx))
/-- Appending much. -/
theorem oAppT8 {α : Type} {fC : α → List AV} {out : List α} {xs : List α} {o : Oper} {t t' e : TypeId} {x y : Operand} {sz by_ d n c : Nat} {g : Option Nat} {h' : List HA} (ho : o.op = .call ⟨.builtin .append, #[x, y], #[t, t']⟩) (hx : ev env x = some (.v (slV g n c))) (hs : Spl h (.sl g c e sz (out.map fC)) h')
    (hy : SrcIs env h y sz (xs.map fC)) (ht : elemOf P t = some (e, sz, by_)) (ht' : isSl P t' = true) (k : ∀ g' c', K ((d, .v (slV g' (out ++ xs).length c')) :: env) (.sl g' c' e sz ((out ++ xs).map fC) :: h'))
    (hd : o.dst = some d := by rfl) (hN : d < N := by decide) (hn : n = out.length := by first | rfl | simp) (hz : ∀ a, (fC a).length = sz := by exact (fun _ => rfl)) (hb : out.length + xs.length ≤ 17592186044416 := by first | omega | (simp; omega) | (simp at *; omega)) (hb2 : by_ ≤ 8 := by decide) : AOp P N o env h K := by
  refine oApp ho hd hN hx hs (by rw [List.length_map]; exact hn) hy ht ht' (fun z hm => ?_) (by simp; omega) ?_ (fun g' c' => ?_)
  · obtain ⟨a, _, rfl⟩ := List.mem_map.1 hm; exact hz a
  · rw [List.length_map, List.length_map]
    calc (out.length + xs.length) * by_ ≤ 17592186044416 * 8 := Nat.mul_le_mul hb hb2
      _ ≤ _ := by decide
  · have e1 : (out.map fC).length + (xs.map fC).length = (out ++ xs).length := by simp
    rw [e1, ← List.map_append]
    exact k g' c'
section
variable {α : Type} {e : TypeId} {sz : Nat} {f : α → List AV}
def famL (f : α → List AV) (m : List (Int × SlE α)) : FamL := m.map fun p => (p.2.g, p.2.c, p.2.l.map f)
/-- The slice at a key, nil where there is none, is taken out. -/
theorem weak_famAt {m : List (Int × SlE α)} {h' : List HA} (n : Int) (hs : Spl h (.fam e sz (famL f m)) h' := by repeat constructor) : Weak N env h env (.sl (slAt m n).g (slAt m n).c e sz ((slAt m n).l.map f) :: .fam e sz (famL f (mDel m n)) :: h') := by
  unfold slAt
  cases hm : mGet m n with
  | none =>
    rw [mDel_none hm]
    exact (weak_perm hs.perm).trans (weak_nil e sz)
  | some s => exact weak_famTake hs ((mDel_perm hm).map (fun p : Int × SlE α => (p.2.g, p.2.c, p.2.l.map f)))
/-- It is put back. -/
theorem weak_famBack {m : List (Int × SlE α)} {h' : List HA} (n : Int) (hs : Tk h [.sl (slAt m n).g (slAt m n).c e sz ((slAt m n).l.map f), .fam e sz (famL f (mDel m n))] h' := by repeat constructor) : Weak N env h env (.fam e sz (famL f m) :: h') := by
  unfold slAt at hs
  cases hm : mGet m n with
  | none =>
    rw [hm, mDel_none hm] at hs
    refine weak_same ?_ (fun F w hh x hx => ?_)
    · refine (owns_perm hs.perm).trans ?_
      rw [owns_append, owns_cons, owns_cons, owns_nil, List.append_nil, owns_cons, own_slG]
      exact .refl _
    · have hmem : ∀ x, x ∈ ([.sl none 0 e sz (([] : List α).map f), .fam e sz (famL f m)] : List HA) ++ h' → x ∈ h := fun x hx => hs.perm.mem_iff.2 hx
      exact hh x (hmem x (by rcases List.mem_cons.1 hx with rfl | hx <;> simp [*]))
  | some s =>
    rw [hm] at hs
    exact weak_famPut hs ((mDel_perm hm).map (fun p : Int × SlE α => (p.2.g, p.2.c, p.2.l.map f))).symm
theorem weak_famBackE {m : List (Int × SlE α)} {s : SlE α} {h' : List HA} (n : Int) (he : s = slAt m n) (hs : Tk h [.sl s.g s.c e sz (s.l.map f), .fam e sz (famL f (mDel m n))] h' := by repeat constructor) : Weak N env h env (.fam e sz (famL f m) :: h') := by
  subst he
  exact weak_famBack n hs
/-- Another one is put at its key. -/
theorem weak_famSet {m : List (Int × SlE α)} {h' : List HA} {g : Option Nat} {c : Nat} {l : List α} (n : Int) (hs : Tk h [.sl g c e sz (l.map f), .fam e sz (famL f (mDel m n))] h' := by repeat constructor) : Weak N env h env (.fam e sz (famL f (mPut m n ⟨g, c, l⟩)) :: h') :=
  weak_famPut hs ((mPut_perm (n := n) (v := (⟨g, c, l⟩ : SlE α)) (m := m)).map (fun p : Int × SlE α => (p.2.g, p.2.c, p.2.l.map f))).symm
/-- Keys that are no longer owned. -/
def mDels {β : Type} (m : List (Int × β)) (ks : List Int) : List (Int × β) := ks.foldl mDel m
theorem mDels_app {β : Type} {m : List (Int × β)} {ks : List Int} {k : Int} : mDels m (ks ++ [k]) = mDel (mDels m ks) k := by unfold mDels; rw [List.foldl_append]; rfl
theorem slAt_del {m : List (Int × SlE α)} {n k : Int} (h : k ≠ n) : slAt (mDel m n) k = slAt m k := by
  unfold slAt
  congr 1
  induction m with
  | nil => rfl
  | cons p t ih =>
    obtain ⟨j, u⟩ := p
    simp only [mDel]
    by_cases hj : n = j
    · subst hj
      rw [if_pos rfl]
      simp only [mGet]
      rw [if_neg h]
    · rw [if_neg hj]
      simp only [mGet]
      rw [ih]
theorem slAt_dels {k : Int} : ∀ (ks : List Int) {m : List (Int × SlE α)}, k ∉ ks → slAt (mDels m ks) k = slAt m k
  | [], _, _ => rfl
  | j :: ks, m, h => by
    show slAt (mDels (mDel m j) ks) k = _
    rw [slAt_dels ks (fun hm => h (List.mem_cons_of_mem _ hm)), slAt_del (fun e => h (by rw [e]; simp))]
end
end A
end Go.Proofs.Ytmcannmjielalaa
set_option linter.unusedVariables false
set_option linter.unusedSimpArgs false
namespace Go.Proofs.Ytmcannmjielalaa
namespace A
structure Wy where
  nd : Int
  c : Int
  vs : List Int
  mn : Int
  deriving DecidableEq, Inhabited
def wyC (w : Wy) : List AV := [.int w.nd, .v (.int .u64 w.c), .sl 1 (w.vs.map intA), .v (.int .u64 w.mn)]
/-! ### Arcs that are on a shortest way -/
def tightB (l : List Arc) (r : Int) (a : Arc) : Bool := (isF l r a.f && isF l r a.t) && (a.t != r) && (dF l r a.f + a.c == dF l r a.t)
def tg (l : List Arc) (r v : Int) : List Arc := l.filter fun a => a.t == v && tightB l r a
def stE (r v : Int) (G : Int → List Int × Int) (s : List Int × Int) (a : Arc) : List Int × Int := (s.1 ++ (if a.f = r then [v] else (G a.f).1), addS s.2 (if a.f = r then 1 else (G a.f).2))
def evF (l : List Arc) (r : Int) : Nat → Int → List Int × Int
  | 0, _ => ([], 0)
  | k + 1, v => (tg l r v).foldl (stE r v (evF l r k)) ([], 0)
def evV (l : List Arc) (r v : Int) : List Int × Int := evF l r (dF l r v).toNat v
theorem tg_mem {l : List Arc} {r v : Int} {a : Arc} : a ∈ tg l r v ↔ a ∈ l ∧ a.t = v ∧ isF l r a.f = true ∧ isF l r v = true ∧ v ≠ r ∧ dF l r a.f + a.c = dF l r v := by
  unfold tg tightB
  rw [List.mem_filter]
  simp only [Bool.and_eq_true, beq_iff_eq, bne_iff_ne]
  constructor
  · rintro ⟨h1, rfl, ⟨⟨h2, h3⟩, h4⟩, h5⟩; exact ⟨h1, rfl, h2, h3, h4, h5⟩
  · rintro ⟨h1, rfl, h2, h3, h4, h5⟩; exact ⟨h1, rfl, ⟨⟨h2, h3⟩, h4⟩, h5⟩
theorem dF_nn {l : List Arc} (hl : ∀ a ∈ l, AOk a) {r v : Int} (h : isF l r v = true) : 0 ≤ dF l r v := (isF_wk hl h).nn hl
theorem foldl_mem {α β : Type} {f g : β → α → β} : ∀ (l : List α) (s : β), (∀ s, ∀ x ∈ l, f s x = g s x) → l.foldl f s = l.foldl g s
  | [], _, _ => rfl
  | a :: l, s, h => by
    rw [List.foldl_cons, List.foldl_cons, h s a (by simp)]
    exact foldl_mem l _ (fun s x hx => h s x (List.mem_cons_of_mem _ hx))
theorem evF_stab {l : List Arc} (hl : ∀ a ∈ l, AOk a) {r : Int} : ∀ (n : Nat) (v : Int), isF l r v = true → (dF l r v).toNat ≤ n → ∀ k, (dF l r v).toNat ≤ k → evF l r k v = evF l r (dF l r v).toNat v
  | n, v, hv, hn, k, hk => by
    have key : ∀ j, (dF l r v).toNat = j + 1 → ∀ k, j ≤ k → (tg l r v).foldl (stE r v (evF l r k)) ([], 0) = (tg l r v).foldl (stE r v (fun u => evF l r (dF l r u).toNat u)) ([], 0) := fun j hj k hjk => by
      refine foldl_mem _ _ (fun s a ha => ?_)
      obtain ⟨h1, h2, h3, h4, h5, h6⟩ := tg_mem.1 ha
      have hk1 := hl a h1
      unfold AOk at hk1
      have hnn := dF_nn hl h3
      unfold stE
      by_cases e : a.f = r
      · rw [if_pos e, if_pos e, if_pos e, if_pos e]
      · match n, hn with
        | 0, hn => omega
        | n + 1, hn => rw [evF_stab hl n a.f h3 (by omega) k (by omega)]
    cases hj : (dF l r v).toNat with
    | zero =>
      have ht : tg l r v = [] := by
        cases h : tg l r v with
        | nil => rfl
        | cons a t =>
          exfalso
          obtain ⟨h1, h2, h3, h4, h5, h6⟩ := tg_mem.1 (show a ∈ tg l r v by rw [h]; simp)
          have hk1 := hl a h1
          unfold AOk at hk1
          have := dF_nn hl h3
          omega
      cases k with
      | zero => rfl
      | succ k => show (tg l r v).foldl _ _ = _; rw [ht]; rfl
    | succ j =>
      cases k with
      | zero => omega
      | succ k =>
        show (tg l r v).foldl _ _ = (tg l r v).foldl _ _
        rw [key j hj k (by omega), key j hj j (Nat.le_refl _)]
theorem evV_eq {l : List Arc} (hl : ∀ a ∈ l, AOk a) {r v : Int} (h : isF l r v = true) : evV l r v = (tg l r v).foldl (stE r v (evV l r)) ([], 0) := by
  have h1 := evF_stab hl _ v h (Nat.le_refl _) ((dF l r v).toNat + 1) (by omega)
  unfold evV
  rw [← h1]
  show (tg l r v).foldl _ _ = _
  refine foldl_mem _ _ (fun s a ha => ?_)
  obtain ⟨q1, q2, q3, q4, q5, q6⟩ := tg_mem.1 ha
  have hk1 := hl a q1
  unfold AOk at hk1
  have hnn := dF_nn hl q3
  unfold stE
  by_cases e : a.f = r
  · rw [if_pos e, if_pos e, if_pos e, if_pos e]
  · rw [evF_stab hl _ a.f q3 (Nat.le_refl _) _ (by omega)]
theorem stE_mem {r v : Int} {G : Int → List Int × Int} {x : Int} : ∀ (T : List Arc) (s : List Int × Int), x ∈ (T.foldl (stE r v G) s).1 ↔ x ∈ s.1 ∨ ∃ a ∈ T, a.f = r ∧ x = v ∨ a.f ≠ r ∧ x ∈ (G a.f).1
  | [], s => by simp
  | a :: T, s => by
    rw [List.foldl_cons, stE_mem T]
    unfold stE
    simp only [List.mem_append, List.mem_cons]
    by_cases e : a.f = r
    · rw [if_pos e]
      constructor
      · rintro ((h | h) | ⟨b, hb, h⟩)
        · exact .inl h
        · exact .inr ⟨a, .inl rfl, .inl ⟨e, by simpa using h⟩⟩
        · exact .inr ⟨b, .inr hb, h⟩
      · rintro (h | ⟨b, rfl | hb, h⟩)
        · exact .inl (.inl h)
        · rcases h with ⟨_, h⟩ | ⟨h, _⟩
          · exact .inl (.inr (by simpa using h))
          · exact absurd e h
        · exact .inr ⟨b, hb, h⟩
    · rw [if_neg e]
      constructor
      · rintro ((h | h) | ⟨b, hb, h⟩)
        · exact .inl h
        · exact .inr ⟨a, .inl rfl, .inr ⟨e, h⟩⟩
        · exact .inr ⟨b, .inr hb, h⟩
      · rintro (h | ⟨b, rfl | hb, h⟩)
        · exact .inl (.inl h)
        · rcases h with ⟨h, _⟩ | ⟨_, h⟩
          · exact absurd h e
          · exact .inl (.inr h)
        · exact .inr ⟨b, hb, h⟩
theorem evV_fh {l : List Arc} (hl : ∀ a ∈ l, AOk a) {r x : Int} : ∀ (n : Nat) (v : Int), (dF l r v).toNat ≤ n → isF l r v = true → v ≠ r → (x ∈ (evV l r v).1 ↔ FH l r v x)
  | n, v, hn, hv, hne => by
    rw [evV_eq hl hv, stE_mem]
    constructor
    · rintro (h | ⟨a, ha, h⟩)
      · simp at h
      · obtain ⟨h1, rfl, h3, h4, h5, h6⟩ := tg_mem.1 ha
        refine fh_of hl h1 h3 h6 ?_
        rcases h with ⟨e, rfl⟩ | ⟨e, h⟩
        · exact .inl ⟨e, rfl⟩
        · have hk1 := hl a h1
          unfold AOk at hk1
          have hnn := dF_nn hl h3
          match n, hn with
          | 0, hn => omega
          | n + 1, hn => exact .inr ((evV_fh hl n a.f (by omega) h3 e).1 h)
    · intro h
      obtain ⟨a, h1, h2, h3, h4, h5⟩ := fh_arc hl h hne
      refine .inr ⟨a, tg_mem.2 ⟨h1, h2, h3, hv, hne, h4⟩, ?_⟩
      rcases h5 with ⟨e, rfl⟩ | ⟨e, h⟩
      · exact .inl ⟨e, rfl⟩
      · have hk1 := hl a h1
        unfold AOk at hk1
        have hnn := dF_nn hl h3
        match n, hn with
        | 0, hn => omega
        | n + 1, hn => exact .inr ⟨e, (evV_fh hl n a.f (by omega) h3 e).2 h⟩
/-! ### Vias, in order -/
def viaS (l : List Arc) (r v : Int) : List Int := (l.filter (viaP l r v)).map (·.t)
theorem viaS_mem {l : List Arc} (hl : ∀ a ∈ l, AOk a) {r v x : Int} : x ∈ viaS l r v ↔ FH l r v x := by
  unfold viaS FH
  rw [List.mem_map]
  constructor
  · rintro ⟨a, ha, rfl⟩
    rw [List.mem_filter] at ha
    obtain ⟨h1, h2⟩ := (viaP_iff hl ha.1).1 ha.2
    exact ⟨a, ha.1, h1, rfl, h2⟩
  · rintro ⟨a, ha, h1, rfl, h2⟩
    exact ⟨a, List.mem_filter.2 ⟨ha, (viaP_iff hl ha).2 ⟨h1, h2⟩⟩, rfl⟩
theorem viaS_sorted {l : List Arc} (hs : l.Pairwise ltA) (r v : Int) : (viaS l r v).Pairwise (· < ·) := by
  unfold viaS
  rw [List.pairwise_map]
  refine (List.Pairwise.and_mem.1 (hs.filter (viaP l r v))).imp fun {x y} ⟨hx, hy, hlt⟩ => ?_
  have h1 := (List.mem_filter.1 hx).2
  have h2 := (List.mem_filter.1 hy).2
  unfold viaP at h1 h2
  simp only [Bool.and_eq_true, beq_iff_eq] at h1 h2
  unfold ltA at hlt
  omega
/-- Neighbours that are the same: the first of them. -/
def cptT (l : List Int) : Nat → List Int
  | 0 => []
  | j + 1 => cptT l j ++ if 0 < j ∧ l.getD j 0 = l.getD (j - 1) 0 then [] else [l.getD j 0]
theorem cptT_spec {l : List Int} (hs : l.Pairwise (· ≤ ·)) : ∀ j, j ≤ l.length → (cptT l j).Pairwise (· < ·) ∧ (∀ x, x ∈ cptT l j ↔ x ∈ l.take j) ∧ (∀ x ∈ cptT l j, 0 < j → x ≤ l.getD (j - 1) 0)
  | 0, _ => by simp [cptT]
  | j + 1, hj => by
    obtain ⟨h1, h2, h3⟩ := cptT_spec hs j (by omega)
    have hg : l.getD j 0 = l[j]'(by omega) := by rw [List.getD, List.getElem?_eq_getElem (by omega)]; rfl
    have hm : l.take (j + 1) = l.take j ++ [l.getD j 0] := by rw [hg]; exact take_step (List.getElem?_eq_getElem (by omega))
    have hle : 0 < j → l.getD (j - 1) 0 ≤ l.getD j 0 := fun h0 => by
      have hg2 : l.getD (j - 1) 0 = l[j - 1]'(by omega) := by rw [List.getD, List.getElem?_eq_getElem (by omega)]; rfl
      rw [hg, hg2]
      exact List.pairwise_iff_getElem.1 hs (j - 1) j (by omega) (by omega) (by omega)
    unfold cptT
    by_cases hc : 0 < j ∧ l.getD j 0 = l.getD (j - 1) 0
    · rw [if_pos hc, List.append_nil, hm]
      refine ⟨h1, fun x => ?_, fun x hx _ => ?_⟩
      · rw [h2, List.mem_append, List.mem_singleton]
        constructor
        · exact .inl
        · rintro (h | rfl)
          · exact h
          · rw [hc.2]
            have hg2 : l.getD (j - 1) 0 = l[j - 1]'(by omega) := by rw [List.getD, List.getElem?_eq_getElem (by omega)]; rfl
            rw [hg2]
            exact List.mem_of_getElem? (i := j - 1) (by rw [List.getElem?_take, if_pos (by omega)]; exact List.getElem?_eq_getElem (by omega))
      · show x ≤ l.getD j 0
        rw [hc.2]; exact h3 x hx hc.1
    · rw [if_neg hc, hm]
      refine ⟨?_, fun x => ?_, fun x hx _ => ?_⟩
      · rw [List.pairwise_append]
        refine ⟨h1, by simp, fun x hx y hy => ?_⟩
        rw [List.mem_singleton.1 hy]
        by_cases h0 : 0 < j
        · have := h3 x hx h0
          have := hle h0
          omega
        · have : j = 0 := by omega
          subst this
          simp [cptT] at hx
      · rw [List.mem_append, List.mem_append, h2]
      · show x ≤ l.getD j 0
        rcases List.mem_append.1 hx with hx | hx
        · by_cases h0 : 0 < j
          · exact Int.le_trans (h3 x hx h0) (hle h0)
          · have : j = 0 := by omega
            subst this
            simp [cptT] at hx
        · rw [List.mem_singleton.1 hx]; exact Int.le_refl _
def cptL (l : List Int) : List Int := cptT l l.length
theorem sortI_srt (zs : List Int) : (sortI zs).Pairwise (· ≤ ·) := by
  have := List.pairwise_mergeSort (le := fun x y : Int => decide (x ≤ y)) (fun a b c h1 h2 => by simp at *; omega) (fun a b => by simp; omega) zs
  exact this.imp fun h => by simpa using h
theorem cpt_via {l : List Arc} (hl : ∀ a ∈ l, AOk a) (hs : l.Pairwise ltA) {r v : Int} (hv : isF l r v = true) (hne : v ≠ r) : cptL (sortI (evV l r v).1) = viaS l r v := by
  obtain ⟨h1, h2, _⟩ := cptT_spec (sortI_srt (evV l r v).1) _ (Nat.le_refl _)
  refine srt_ext (r := fun x y : Int => x < y) (fun a => by omega) (fun a b c h1 h2 => by omega) h1 (viaS_sorted hs r v) (fun x => ?_)
  show x ∈ cptT _ _ ↔ _
  rw [h2, List.take_length, sortI_mem, viaS_mem hl, evV_fh hl _ v (Nat.le_refl _) hv hne]
/-! ### How many -/
theorem addS_rng {a b : Int} (h1 : 0 ≤ a) (h2 : a ≤ farI) (h3 : 0 ≤ b) (h4 : b ≤ farI) : 0 ≤ addS a b ∧ addS a b ≤ farI := by unfold addS; split <;> (unfold farI at *; omega)
theorem stE_rng {r v : Int} {G : Int → List Int × Int} (hG : ∀ u, 0 ≤ (G u).2 ∧ (G u).2 ≤ farI) : ∀ (T : List Arc) (s : List Int × Int), 0 ≤ s.2 → s.2 ≤ farI → 0 ≤ (T.foldl (stE r v G) s).2 ∧ (T.foldl (stE r v G) s).2 ≤ farI
  | [], s, h1, h2 => ⟨h1, h2⟩
  | a :: T, s, h1, h2 => by
    rw [List.foldl_cons]
    have h3 := hG a.f
    have h4 : 0 ≤ (if a.f = r then (1 : Int) else (G a.f).2) ∧ (if a.f = r then (1 : Int) else (G a.f).2) ≤ farI := by
      split
      · exact ⟨by decide, by decide⟩
      · exact h3
    have h5 := addS_rng h1 h2 h4.1 h4.2
    exact stE_rng hG T _ h5.1 h5.2
theorem evF_rng (l : List Arc) (r : Int) : ∀ (k : Nat) (v : Int), 0 ≤ (evF l r k v).2 ∧ (evF l r k v).2 ≤ farI
  | 0, _ => ⟨Int.le_refl 0, by show (0 : Int) ≤ farI; decide⟩
  | k + 1, v => stE_rng (evF_rng l r k) _ _ (by decide) (by decide)
theorem evV_rng (l : List Arc) (r v : Int) : 0 ≤ (evV l r v).2 ∧ (evV l r v).2 ≤ farI := evF_rng l r _ v
theorem stE_many {r v : Int} {G : Int → List Int × Int} (hG : ∀ u, 0 ≤ (G u).2 ∧ (G u).2 ≤ farI) {S : Arc → List Int} : ∀ (T : List Arc) (s : List Int × Int), (∀ a ∈ T, ((S a).length : Int) ≤ if a.f = r then 1 else (G a.f).2) → 0 ≤ s.2 → s.2 ≤ farI → min farI (s.2 + ((T.flatMap S).length : Nat)) ≤ (T.foldl (stE r v G) s).2
  | [], s, _, h1, h2 => by simp; omega
  | a :: T, s, h, h1, h2 => by
    rw [List.foldl_cons, List.flatMap_cons, List.length_append]
    have h3 := hG a.f
    have h4 : 0 ≤ (if a.f = r then (1 : Int) else (G a.f).2) ∧ (if a.f = r then (1 : Int) else (G a.f).2) ≤ farI := by
      split
      · exact ⟨by decide, by decide⟩
      · exact h3
    have h5 := addS_rng h1 h2 h4.1 h4.2
    have h6 := stE_many (v := v) hG T (stE r v G s a) (fun b hb => h b (List.mem_cons_of_mem _ hb)) h5.1 h5.2
    have h7 := h a (by simp)
    have h8 : (stE r v G s a).2 = addS s.2 (if a.f = r then 1 else (G a.f).2) := rfl
    rw [h8] at h6
    generalize (if a.f = r then (1 : Int) else (G a.f).2) = q at *
    have h9 : min farI (s.2 + q) ≤ addS s.2 q := by unfold addS; split <;> omega
    omega
theorem many_ge {l : List Arc} (hok : arcsB none l = true) {r : Int} : ∀ (n : Nat) (v : Int), (dF l r v).toNat ≤ n → isF l r v = true → v ≠ r → ((viaS l r v).length : Int) ≤ (evV l r v).2
  | n, v, hn, hv, hne => by
    have hl := arcs_ok hok
    have hs := arcsB_sorted hok
    rw [evV_eq hl hv]
    have h1 := stE_many (v := v) (evV_rng l r) (S := fun a => if a.f = r then [v] else viaS l r a.f) (tg l r v) ([], 0) (fun a ha => by
      obtain ⟨q1, q2, q3, q4, q5, q6⟩ := tg_mem.1 ha
      by_cases e : a.f = r
      · rw [if_pos e, if_pos e]; simp
      · rw [if_neg e, if_neg e]
        have hk1 := hl a q1
        unfold AOk at hk1
        have hnn := dF_nn hl q3
        match n, hn with
        | 0, hn => omega
        | n + 1, hn => exact many_ge hok n a.f (by omega) q3 e) (by decide) (by decide)
    have hnd : (viaS l r v).Nodup := by
      rw [List.nodup_iff_pairwise_ne]
      exact (viaS_sorted hs r v).imp (fun h => by omega)
    have h2 := List.Nodup.length_le_of_subset hnd (l₂ := (tg l r v).flatMap fun a => if a.f = r then [v] else viaS l r a.f) (fun x hx => by
      obtain ⟨a, q1, q2, q3, q4, q5⟩ := fh_arc hl ((viaS_mem hl).1 hx) hne
      refine List.mem_flatMap.2 ⟨a, tg_mem.2 ⟨q1, q2, q3, hv, hne, q4⟩, ?_⟩
      rcases q5 with ⟨e, rfl⟩ | ⟨e, h⟩
      · rw [if_pos e]; simp
      · rw [if_neg e]; exact (viaS_mem hl).2 h)
    have h3 : (viaS l r v).length ≤ 64 := by
      have h4 := nodup_len (l := (viaS l r v).map (· - 1)) (n := 64) (by
        rw [List.nodup_iff_pairwise_ne] at hnd ⊢
        rw [List.pairwise_map]
        exact hnd.imp (fun h e => h (by omega))) (fun x hx => by
        obtain ⟨u, hu, rfl⟩ := List.mem_map.1 hx
        obtain ⟨a, q1, _, q3, _⟩ := (viaS_mem hl).1 hu
        have := hl a q1
        unfold AOk at this
        omega)
      simpa using h4
    have h5 : (0 : Int) + ((((tg l r v).flatMap fun a => if a.f = r then [v] else viaS l r a.f).length : Nat) : Int) = ((((tg l r v).flatMap fun a => if a.f = r then [v] else viaS l r a.f).length : Nat) : Int) := by omega
    simp only [h5] at h1
    have h6 : (64 : Int) ≤ farI := by decide
    omega
def waysM (l : List Arc) (r : Int) : List Wy := (rtsM l r).map fun x => ⟨x.nd, x.c, viaS l r x.nd, (evV l r x.nd).2⟩
theorem via_head {l : List Arc} {r v : Int} : (viaS l r v)[0]? = (l.find? (viaP l r v)).map (·.t) := by
  unfold viaS
  rw [← List.head?_eq_getElem?, List.head?_map, List.head?_filter]
end A
end Go.Proofs.Ytmcannmjielalaa
set_option linter.unusedVariables false
set_option linter.unusedSimpArgs false
namespace Go.Proofs.Ytmcannmjielalaa
namespace A
def qT : List Nat := [1, 1, 1, 2, 3, 4, 5, 7, 10, 13, 17, 24, 33, 43, 58, 81, 109, 144, 197, 271, 362, 485, 665, 904, 1209, 1635, 2234, 3017, 4053, 5504, 7485, 10087, 13610, 18493, 25057, 33784, 45713, 62043, 83898, 113281, 153469, 207984, 281077, 380031, 514922, 697045, 942185, 1274984, 1726889, 2336275, 3159354, 4276857, 5790053, 7831904, 10595565, 14343767, 19412010, 26259373, 35534897, 48099544, 65083393, 88053643, 119169338, 161282481, 218220429, 295276624, 399621157, 540785391, 731717482, 990174405, 1340027705, 1813288264, 2453609369, 3320376515, 4493343674, 6080185897, 8227595253, 11134096704, 15066873245, 20387967047, 27589287210, 37335066653, 50521713537, 68365221304, 92513641073, 125191846843, 169408648378, 229244083681, 310219128989, 419792342064, 568061380437, 768707296351, 1040230600042, 1407646064565, 1904830057225, 2577645192744, 3488107264649, 4720122186355, 6387305307194, 8643397650137, 11696336715653]
def Q (m : Nat) : Nat := qT.getD m 0
def Bq (m : Nat) : Nat := if m = 0 then 0 else Q (m - 1)
theorem qchk : ((List.range 101).all fun m => (List.range (101 - m)).all fun d => d == 0 || decide (Q m + (d - 1) * Bq m ≤ Q (m + d))) = true := by decide +kernel
theorem Q_step {m d : Nat} (h0 : 0 < d) (h : m + d ≤ 100) : Q m + (d - 1) * Bq m ≤ Q (m + d) := by
  have h1 := List.all_eq_true.1 (List.all_eq_true.1 qchk m (List.mem_range.2 (by omega))) d (List.mem_range.2 (by omega))
  simp only [Bool.or_eq_true, beq_iff_eq, decide_eq_true_eq] at h1
  omega
theorem Q_mono {m n : Nat} (h : m ≤ n) (hn : n ≤ 100) : Q m ≤ Q n := by
  by_cases e : m = n
  · rw [e]; exact Nat.le_refl _
  · have := Q_step (m := m) (d := n - m) (by omega) (by omega)
    rw [show m + (n - m) = n by omega] at this
    omega
theorem Bq_mono {m n : Nat} (h : m ≤ n) (hn : n ≤ 100) : Bq m ≤ Bq n := by
  unfold Bq
  split
  · omega
  · rw [if_neg (by omega)]
    exact Q_mono (by omega) (by omega)
theorem Bq_le {m : Nat} (hn : m ≤ 100) : Bq m ≤ Q m := by
  unfold Bq
  split
  · omega
  · exact Q_mono (by omega) hn
theorem Q_top {m : Nat} (h : m ≤ 100) : Q m ≤ 11696336715653 := Nat.le_trans (Q_mono h (Nat.le_refl _)) (by decide +kernel)
theorem sum_two {A B : Nat} (hBA : B ≤ A) : ∀ {L : List Nat}, (∀ x ∈ L, x ≤ A) → L.Pairwise (fun x y => x ≤ B ∨ y ≤ B) → L ≠ [] → L.sum ≤ A + (L.length - 1) * B
  | [], _, _, h => absurd rfl h
  | [x], h, _, _ => by have := h x (by simp); simp; omega
  | x :: y :: t, h, hp, _ => by
    have hc := List.pairwise_cons.1 hp
    have ih := sum_two hBA (L := y :: t) (fun z hz => h z (List.mem_cons_of_mem _ hz)) hc.2 (by simp)
    have hx := h x (by simp)
    rw [List.sum_cons]
    simp only [List.length_cons, Nat.add_sub_cancel] at ih ⊢
    have e1 : (t.length + 1) * B = t.length * B + B := by rw [Nat.add_mul, Nat.one_mul]
    by_cases hb : x ≤ B
    · omega
    · have key : ∀ l : List Nat, (∀ z ∈ l, z ≤ B) → l.sum ≤ l.length * B := fun l => by
        induction l with
        | nil => simp
        | cons z l ihl =>
          intro hz
          have h1 := ihl (fun w hw => hz w (List.mem_cons_of_mem _ hw))
          have h2 := hz z (by simp)
          rw [List.sum_cons, List.length_cons, Nat.add_mul, Nat.one_mul]
          omega
      have h3 := key (y :: t) (fun z hz => (hc.1 z hz).resolve_left hb)
      rw [List.length_cons] at h3
      omega
def wl (l : List Arc) (r u : Int) : Nat := if u = r then 1 else (evV l r u).1.length
theorem stE_len {r v : Int} {G : Int → List Int × Int} : ∀ (T : List Arc) (s : List Int × Int), (T.foldl (stE r v G) s).1.length = s.1.length + (T.map fun a => if a.f = r then 1 else (G a.f).1.length).sum
  | [], s => by simp
  | a :: T, s => by
    rw [List.foldl_cons, stE_len T, List.map_cons, List.sum_cons]
    unfold stE
    rw [List.length_append]
    by_cases e : a.f = r
    · rw [if_pos e, if_pos e]; simp; omega
    · rw [if_neg e, if_neg e]; omega
theorem wl_eq {l : List Arc} (hl : ∀ a ∈ l, AOk a) {r v : Int} (h : isF l r v = true) (hne : v ≠ r) : wl l r v = ((tg l r v).map fun a => wl l r a.f).sum := by
  have e : wl l r v = (evV l r v).1.length := by unfold wl; rw [if_neg hne]
  rw [e, evV_eq hl h, stE_len]
  simp only [List.length_nil, Nat.zero_add]
  rfl
/-- The nodes that are reached, nearer ones first. -/
structure Near (l : List Arc) (r : Int) (us : List Int) : Prop where
  nd : us.Nodup
  mem : ∀ v, v ∈ us ↔ isF l r v = true ∧ v ≠ r
  ord : us.Pairwise fun u v => dF l r u ≤ dF l r v
theorem Near.pred {l : List Arc} (hl : ∀ a ∈ l, AOk a) {r : Int} {us : List Int} (N : Near l r us) {i : Nat} {v : Int} (hv : us[i]? = some v) {a : Arc} (ha : a ∈ tg l r v) : a.f = r ∨ a.f ∈ us.take i := by
  by_cases e : a.f = r
  · exact .inl e
  · right
    obtain ⟨q1, q2, q3, q4, q5, q6⟩ := tg_mem.1 ha
    have hk1 := hl a q1
    unfold AOk at hk1
    obtain ⟨j, hj⟩ := List.mem_iff_getElem?.1 ((N.mem a.f).2 ⟨q3, e⟩)
    by_cases hji : j < i
    · exact List.mem_of_getElem? (i := j) (by rw [List.getElem?_take, if_pos hji]; exact hj)
    · exfalso
      obtain ⟨g1, e1⟩ := List.getElem?_eq_some_iff.1 hj
      obtain ⟨g2, e2⟩ := List.getElem?_eq_some_iff.1 hv
      by_cases hjj : j = i
      · subst hjj
        have e3 := e1.symm.trans e2
        rw [e3] at q6
        omega
      · have := List.pairwise_iff_getElem.1 N.ord i j g2 g1 (by omega)
        rw [e1, e2] at this
        omega
def cntM (l : List Arc) (r : Int) (us : List Int) : Nat := (us.flatMap (tg l r)).length
theorem cnt_le {l : List Arc} (hs : l.Pairwise ltA) {r : Int} {us : List Int} (hn : us.Nodup) : cntM l r us ≤ l.length := by
  have hl : l.Nodup := by rw [List.nodup_iff_pairwise_ne]; exact hs.imp fun {x y} h e => by subst e; unfold ltA at h; omega
  refine List.Nodup.length_le_of_subset ?_ (fun a ha => ?_)
  · rw [List.nodup_iff_pairwise_ne, List.pairwise_flatMap]
    refine ⟨fun u _ => ?_, ?_⟩
    · rw [← List.nodup_iff_pairwise_ne]
      unfold tg
      rw [List.nodup_iff_pairwise_ne] at hl ⊢
      exact hl.filter _
    · rw [List.nodup_iff_pairwise_ne] at hn
      refine hn.imp fun {u v} hne x hx y hy e => ?_
      subst e
      exact hne ((tg_mem.1 hx).2.1.symm.trans (tg_mem.1 hy).2.1)
  · obtain ⟨u, _, hu⟩ := List.mem_flatMap.1 ha
    exact (tg_mem.1 hu).1
theorem near_inv {l : List Arc} (hok : arcsB none l = true) (h100 : l.length ≤ 100) {r : Int} {us : List Int} (N : Near l r us) : ∀ i, i ≤ us.length → (∀ u ∈ r :: us.take i, wl l r u ≤ Q (cntM l r (us.take i))) ∧ ∀ u ∈ r :: us.take i, ∀ w ∈ r :: us.take i, u ≠ w → wl l r u ≤ Bq (cntM l r (us.take i)) ∨ wl l r w ≤ Bq (cntM l r (us.take i))
  | 0, _ => by
    refine ⟨fun u hu => ?_, fun u hu w hw hne => ?_⟩
    · simp at hu
      subst hu
      unfold wl cntM
      rw [if_pos rfl]
      exact Nat.le_refl 1
    · simp at hu hw
      exact absurd (hu.trans hw.symm) hne
  | i + 1, hi => by
    have hl := arcs_ok hok
    have hs := arcsB_sorted hok
    obtain ⟨I1, I2⟩ := near_inv hok h100 N i (by omega)
    obtain ⟨v, hv⟩ : ∃ v, us[i]? = some v := ⟨_, List.getElem?_eq_getElem (by omega)⟩
    have hvm := (N.mem v).1 (List.mem_of_getElem? hv)
    have hM : cntM l r (us.take (i + 1)) = cntM l r (us.take i) + (tg l r v).length := by
      unfold cntM
      rw [take_step hv, List.flatMap_append, List.length_append]
      simp
    have hle : cntM l r (us.take (i + 1)) ≤ 100 := Nat.le_trans (cnt_le hs (N.nd.sublist (List.take_sublist _ _))) h100
    obtain ⟨w0, hw0⟩ := fh_ex hl hvm.1 hvm.2
    obtain ⟨a0, b1, b2, b3, b4, _⟩ := fh_arc hl hw0 hvm.2
    have hd : 0 < (tg l r v).length := List.length_pos_of_mem (tg_mem.2 ⟨b1, b2, b3, hvm.1, hvm.2, b4⟩)
    generalize hm : cntM l r (us.take i) = m at *
    rw [hM] at hle ⊢
    generalize hdd : (tg l r v).length = d at *
    have hpm : ∀ a ∈ tg l r v, a.f ∈ r :: us.take i := fun a ha => by
      rcases N.pred hl hv ha with h | h
      · rw [h]; simp
      · exact List.mem_cons_of_mem _ h
    have hvw : wl l r v ≤ Q (m + d) := by
      rw [wl_eq hl hvm.1 hvm.2]
      refine Nat.le_trans (sum_two (A := Q m) (B := Bq m) (Bq_le (by omega)) (fun x hx => ?_) ?_ ?_) ?_
      · obtain ⟨a, ha, rfl⟩ := List.mem_map.1 hx
        exact I1 _ (hpm a ha)
      · rw [List.pairwise_map]
        have hp : (tg l r v).Pairwise ltA := hs.filter _
        refine (List.Pairwise.and_mem.1 hp).imp fun {x y} ⟨hx, hy, hlt⟩ => ?_
        refine I2 _ (hpm x hx) _ (hpm y hy) (fun e => ?_)
        have e1 := (tg_mem.1 hx).2.1
        have e2 := (tg_mem.1 hy).2.1
        unfold ltA at hlt
        omega
      · intro e
        have := congrArg List.length e
        rw [List.length_map, hdd] at this
        simp at this
        omega
      · rw [List.length_map, hdd]
        exact Q_step hd hle
    have hold : ∀ u ∈ r :: us.take (i + 1), u = v ∨ u ∈ r :: us.take i := fun u hu => by
      rw [take_step hv] at hu
      rcases List.mem_cons.1 hu with rfl | hu
      · exact .inr (by simp)
      · rcases List.mem_append.1 hu with hu | hu
        · exact .inr (List.mem_cons_of_mem _ hu)
        · exact .inl (List.mem_singleton.1 hu)
    have hBq : Q m ≤ Bq (m + d) := by
      unfold Bq
      rw [if_neg (by omega)]
      exact Q_mono (by omega) (by omega)
    refine ⟨fun u hu => ?_, fun u hu w hw hne => ?_⟩
    · rcases hold u hu with rfl | hu
      · exact hvw
      · exact Nat.le_trans (I1 u hu) (Q_mono (by omega) hle)
    · rcases hold u hu with rfl | hu
      · rcases hold w hw with rfl | hw
        · exact absurd rfl hne
        · exact .inr (Nat.le_trans (I1 w hw) hBq)
      · rcases hold w hw with rfl | hw
        · exact .inl (Nat.le_trans (I1 u hu) hBq)
        · exact (I2 u hu w hw hne).imp (fun h => Nat.le_trans h (Bq_mono (by omega) hle)) (fun h => Nat.le_trans h (Bq_mono (by omega) hle))
theorem near_len {l : List Arc} (hok : arcsB none l = true) (h100 : l.length ≤ 100) {r : Int} {us : List Int} (N : Near l r us) {u : Int} (hu : u ∈ us) : (evV l r u).1.length ≤ 11696336715653 := by
  have h1 := (near_inv hok h100 N us.length (Nat.le_refl _)).1 u (by rw [List.take_length]; exact List.mem_cons_of_mem _ hu)
  have h2 := cnt_le (arcsB_sorted hok) (r := r) (N.nd.sublist (List.take_sublist us.length us))
  have h3 := Q_top (m := cntM l r (us.take us.length)) (by omega)
  have h4 : wl l r u = (evV l r u).1.length := by unfold wl; rw [if_neg ((N.mem u).1 hu).2]
  omega
end A
end Go.Proofs.Ytmcannmjielalaa
set_option linter.unusedVariables false
set_option linter.unusedSimpArgs false
namespace Go.Proofs.Ytmcannmjielalaa
namespace A
/- cmp.isNaN[uint64] -/
set_option maxRecDepth 100000 in
set_option maxHeartbeats 400000 in
theorem cmp_isNaN64 {n : Int} : Triple Try.prog 253 [.v (.int .u64 n)] [] (Is (.v (.bool false)) []) := by
  refine triple_of Try.func253 rfl (by kernel_rfl) rfl (by simp) ?_
  refine aSeq ?_
  refine aReg ?_
  refine sp pMa ?_
  refine oNil ?_
  refine aSeq ?_
  refine aReg ?_
  refine sp pM ?_
  refine sp pM ?_
  refine sp pB ?_
  refine sp pMa ?_
  refine oNil ?_
  refine aRet ?_
  refine finIs rfl ?_
  simp [retOf]
/- cmp.Compare[uint64] -/
set_option maxRecDepth 100000 in
set_option maxHeartbeats 400000 in
theorem cmp_Compare64 {a b : Int} : Triple Try.prog 190 [.v (.int .u64 a), .v (.int .u64 b)] [] (Is (.v (.int .i64 (cmpI a b))) []) := by
  refine triple_of Try.func190 rfl (by kernel_rfl) rfl (by simp) ?_
  refine aSeq ?_
  refine aReg ?_
  refine sp pMa ?_
  refine oNil ?_
  refine aSeq ?_
  refine aReg ?_
  refine sp pM ?_
  refine sq ?_
  refine cv rfl rfl rfl (lents_refl _) cmp_isNaN64 ?_
  refine sp pMa ?_
  refine oNil ?_
  refine aSeq ?_
  refine aReg ?_
  refine sp pM ?_
  refine sq ?_
  refine cv rfl rfl rfl (lents_refl _) cmp_isNaN64 ?_
  refine sp pMa ?_
  refine oNil ?_
  refine aSeq ?_
  refine aSeq ?_
  refine aReg ?_
  refine sp pM ?_
  refine oNil ?_
  refine aCond rfl (fun c11 => ?_) (fun c11 => ?_)
  · skip
    refine aSeq ?_
    refine aSeq ?_
    refine aReg ?_
    refine sp pM ?_
    refine oNil ?_
    refine aCond rfl (fun c12 => ?_) (fun c12 => ?_)
    · skip
      refine aSeq ?_
      refine aReg ?_
      refine sp pMa ?_
      refine oNil ?_
      refine aRet ?_
      refine finIs rfl ?_
      simp_all [retOf, cmpI] <;> omega
    · skip
      refine aSkip ?_
      refine aSeq ?_
      refine aReg ?_
      refine sp pMa ?_
      refine oNil ?_
      refine aRet ?_
      refine finIs rfl ?_
      simp_all [retOf, cmpI] <;> omega
  · skip
    refine aSkip ?_
    refine aSeq ?_
    refine aSeq ?_
    refine aReg ?_
    refine sp pM ?_
    refine oNil ?_
    refine aCond rfl (fun c13 => ?_) (fun c13 => ?_)
    · skip
      refine aSeq ?_
      refine aReg ?_
      refine sp pMa ?_
      refine oNil ?_
      refine aRet ?_
      refine finIs rfl ?_
      simp_all [retOf, cmpI] <;> omega
    · skip
      refine aSkip ?_
      refine aSeq ?_
      refine aSeq ?_
      refine aReg ?_
      refine sp pM ?_
      refine sp pM ?_
      refine sp pB ?_
      refine oNil ?_
      refine aCondDec rfl (fun c16 => ?_) (fun c16 => ?_)
      · skip
        refine aSeq ?_
        refine aReg ?_
        refine sp pMa ?_
        refine oNil ?_
        refine aRet ?_
        refine finIs rfl ?_
        simp_all [retOf, cmpI] <;> omega
      · skip
        refine aSkip ?_
        refine aSeq ?_
        refine aSeq ?_
        refine aReg ?_
        refine sp pM ?_
        refine sp pM ?_
        refine sp pB ?_
        refine oNil ?_
        refine aCondDec rfl (fun c19 => ?_) (fun c19 => ?_)
        · skip
          refine aSeq ?_
          refine aReg ?_
          refine sp pMa ?_
          refine oNil ?_
          refine aRet ?_
          refine finIs rfl ?_
          simp_all [retOf, cmpI] <;> omega
        · skip
          refine aSkip ?_
          refine aSeq ?_
          refine aReg ?_
          refine sp pMa ?_
          refine oNil ?_
          refine aRet ?_
          refine finIs rfl ?_
          simp_all [retOf, cmpI] <;> omega
def ltN (x y : Rt) : Prop := x.c < y.c ∨ x.c = y.c ∧ x.nd < y.nd
def orderN (x y : Rt) : Int := if cmpI x.c y.c ≠ 0 then cmpI x.c y.c else cmpI x.nd y.nd
theorem orderN_lt {x y : Rt} : orderN x y < 0 ↔ ltN x y := by
  unfold orderN ltN cmpI
  repeat' split
  all_goals omega
def encR (e : Rt) : List Value := [.int .i64 e.nd, .int .i64 e.via, .int .u64 e.c]
theorem swo_rt : Go.Sort.SWO (Go.Proofs.ltOf orderN) where
  irrefl := fun x => by simp only [Go.Proofs.ltOf, decide_eq_false_iff_not, orderN_lt]; unfold ltN; omega
  trans := fun x y z h1 h2 => by simp only [Go.Proofs.ltOf, decide_eq_true_eq, orderN_lt] at *; unfold ltN at *; omega
  ntrans := fun x y z h1 h2 => by simp only [Go.Proofs.ltOf, decide_eq_false_iff_not, orderN_lt] at *; unfold ltN at *; omega
instance : Inhabited Rt := ⟨⟨0, 0, 0⟩⟩
/- ecmp.All$1 -/
def ec_All1_r1_T : Bool × List (List Nat × List Nat) := (true, [([], []), ([0], [0]), ([], []), ([2], [2]), ([1, 3], [1, 3]), ([], []), ([5], [5]), ([], []), ([7], [7]), ([6, 8, 4], [6, 8]), ([4, 9], [4, 9]), ([10, 9], [10]), ([11, 11, 0, 1, 2, 3, 4, 5, 6, 7, 8, 9, 10, 11], [11])])
def ec_All1_r1_B : List Nat := [0, 1, 0, 4, 15, 0, 32, 0, 128, 511, 1023, 2047, 4095]
theorem ec_All1_r1_t : Go.Proofs.YtmcannmjielalaaW.PrintLast.rtab .any (Go.Proofs.YtmcannmjielalaaW.PrintLast.opsOf Try.f189 1) = ec_All1_r1_T := by kernel_rfl
theorem ec_All1_r1_b : Go.Proofs.YtmcannmjielalaaW.PrintLast.waitsOk ec_All1_r1_T.2 ec_All1_r1_B = true := by kernel_rfl
set_option maxRecDepth 100000 in
set_option maxHeartbeats 400000 in
theorem ec_All1 {a b : Rt} : Triple Try.prog 189 [.agg (rtC a), .agg (rtC b)] [] (Is (.v (.int .i64 (orderN a b))) []) := by
  refine triple_of Try.func189 rfl (by kernel_rfl) rfl (by simp) ?_
  refine aSeq ?_
  refine aReg ?_
  refine sq ?_
  refine qBox rfl rfl (by decide) rfl rfl (fun b2 => ?_)
  refine sq ?_
  refine qBox rfl rfl (by decide) rfl rfl (fun b3 => ?_)
  refine sp pMa ?_
  refine oNil ?_
  refine aSeq ?_
  refine aDrawT ec_All1_r1_t ec_All1_r1_b [] 13 #[false, false, false, false, false, false, false, false, false, false, false, false, false] (by kernel_rfl) rfl rfl (fun HT => ?_)
  refine dp HT 0 rfl (pFb fd_49_2) ?_
  refine dr HT 1 rfl (rB1 ty_37) ?_
  refine dp HT 2 rfl (pFb fd_49_2) ?_
  refine dr HT 3 rfl (rB1 ty_37) ?_
  refine dp HT 5 rfl (pFb fd_49_0) ?_
  refine dr HT 6 rfl (rB1 ty_3) ?_
  refine dp HT 7 rfl (pFb fd_49_0) ?_
  refine dr HT 8 rfl (rB1 ty_3) ?_
  refine dGo ?_
  refine e1 HT 4 rfl ?_
  refine cv rfl rfl rfl (lents_refl _) cmp_Compare64 ?_
  refine e1 HT 9 rfl ?_
  refine cv rfl rfl rfl (lents_refl _) cmp_Compare ?_
  refine e1 HT 10 rfl ?_
  refine qLit (l := [_, _]) rfl rfl (by decide) us_25 ty_3 ze_3 rfl (by decide) (by decide) rfl rfl rfl (fun b15 => ?_)
  refine e1 HT 11 rfl ?_
  refine cv rfl rfl rfl (by repeat (first | exact .nil | refine .cons (.sl (by repeat (first | exact List.mem_cons_self | apply List.mem_cons_of_mem)) (by first | rfl | simp)) ?_ | refine .cons (.same _) ?_)) (cmp_Or [cmpI a.c b.c, cmpI a.nd b.nd]) ?_
  refine ePure (i := 12) #[true, true, true, true, true, true, true, true, true, true, true, true, true] rfl rfl rfl (HT.any (by kernel_rfl)) (by exact pMa) (by decide) ?_
  refine eE HT ?_
  clear HT
  refine aRet ?_
  refine finIs rfl ?_
  by_cases h1 : cmpI a.c b.c = 0 <;> by_cases h2 : cmpI a.nd b.nd = 0 <;> simp [retOf, orI, orderN, h1, h2]
def srtR_ren : Go.Shelf.Ren := ⟨fun | 6 => 188 | 15 => 243 | 14 => 252 | 28 => 282 | 29 => 283 | 20 => 300 | 21 => 301 | 22 => 302 | 23 => 303 | 24 => 304 | 25 => 305 | 26 => 306 | 27 => 307 | 46 => 330 | 47 => 320 | 48 => 321 | 49 => 331 | 50 => 332 | 57 => 340 | n => n, fun | 22 => 41 | 24 => 49 | 25 => 238 | 3 => 3 | 39 => 270 | 0 => 0 | 53 => 313 | 55 => 37 | 4 => 4 | 46 => 307 | 45 => 306 | 50 => 175 | 5 => 5 | 9 => 9 | 66 => 341 | 70 => 344 | 76 => 354 | 77 => 187 | n => n, fun | n => n⟩
theorem srtR : Go.Proofs.SlLaysF0.n6 Try.prog srtR_ren := {
  mixed := by kernel_rfl,
  f6 := ⟨"slices.SortFunc[[]waymark/api.Route,waymark/api.Route]", by decide, Try.func188.trans (congrArg some (by kernel_rfl))⟩,
  f14 := ⟨"slices.pdqsortCmpFunc[waymark/api.Route]", by decide, Try.func252.trans (congrArg some (by kernel_rfl))⟩,
  f15 := Try.func243.trans (congrArg some (by kernel_rfl)),
  f20 := ⟨"slices.insertionSortCmpFunc[waymark/api.Route]", by decide, Try.func300.trans (congrArg some (by kernel_rfl))⟩,
  f21 := ⟨"slices.heapSortCmpFunc[waymark/api.Route]", by decide, Try.func301.trans (congrArg some (by kernel_rfl))⟩,
  f22 := ⟨"slices.breakPatternsCmpFunc[waymark/api.Route]", by decide, Try.func302.trans (congrArg some (by kernel_rfl))⟩,
  f23 := ⟨"slices.choosePivotCmpFunc[waymark/api.Route]", by decide, Try.func303.trans (congrArg some (by kernel_rfl))⟩,
  f24 := ⟨"slices.reverseRangeCmpFunc[waymark/api.Route]", by decide, Try.func304.trans (congrArg some (by kernel_rfl))⟩,
  f25 := ⟨"slices.partialInsertionSortCmpFunc[waymark/api.Route]", by decide, Try.func305.trans (congrArg some (by kernel_rfl))⟩,
  f26 := ⟨"slices.partitionEqualCmpFunc[waymark/api.Route]", by decide, Try.func306.trans (congrArg some (by kernel_rfl))⟩,
  f27 := ⟨"slices.partitionCmpFunc[waymark/api.Route]", by decide, Try.func307.trans (congrArg some (by kernel_rfl))⟩,
  f28 := Try.func282.trans (congrArg some (by kernel_rfl)),
  f29 := Try.func283.trans (congrArg some (by kernel_rfl)),
  f46 := ⟨"slices.siftDownCmpFunc[waymark/api.Route]", by decide, Try.func330.trans (congrArg some (by kernel_rfl))⟩,
  f47 := Try.func320.trans (congrArg some (by kernel_rfl)),
  f48 := Try.func321.trans (congrArg some (by kernel_rfl)),
  f49 := ⟨"slices.medianAdjacentCmpFunc[waymark/api.Route]", by decide, Try.func331.trans (congrArg some (by kernel_rfl))⟩,
  f50 := ⟨"slices.medianCmpFunc[waymark/api.Route]", by decide, Try.func332.trans (congrArg some (by kernel_rfl))⟩,
  f57 := ⟨"slices.order2CmpFunc[waymark/api.Route]", by decide, Try.func340.trans (congrArg some (by kernel_rfl))⟩,
  t0 := Try.underlying0,
  a0 := Try.isAgg0,
  z0 := Try.sizeOf0,
  v0 := Try.zeroValue0,
  t3 := Try.underlying3,
  a3 := Try.isAgg3,
  z3 := Try.sizeOf3,
  v3 := Try.zeroValue3,
  t4 := Try.underlying4,
  a4 := Try.isAgg4,
  z4 := Try.sizeOf4,
  v4 := Try.zeroValue4,
  t5 := Try.underlying5,
  a5 := Try.isAgg5,
  z5 := Try.sizeOf5,
  v5 := Try.zeroValue5,
  t9 := Try.underlying9,
  a9 := Try.isAgg9,
  z9 := Try.sizeOf9,
  v9 := Try.zeroValue9,
  t22 := Try.underlying41,
  a22 := Try.isAgg41,
  z22 := Try.sizeOf41,
  v22 := Try.zeroValue41,
  t25 := Try.underlying238,
  a25 := Try.isAgg238,
  z25 := Try.sizeOf238,
  v25 := Try.zeroValue238,
  t39 := Try.underlying270,
  a39 := Try.isAgg270,
  z39 := Try.sizeOf270,
  v39 := Try.zeroValue270,
  t45 := Try.underlying306,
  a45 := Try.isAgg306,
  z45 := Try.sizeOf306,
  v45 := Try.zeroValue306,
  t46 := Try.underlying307,
  a46 := Try.isAgg307,
  z46 := Try.sizeOf307,
  v46 := Try.zeroValue307,
  t50 := Try.underlying175,
  a50 := Try.isAgg175,
  z50 := Try.sizeOf175,
  v50 := Try.zeroValue175,
  t53 := Try.underlying313,
  a53 := Try.isAgg313,
  z53 := Try.sizeOf313,
  v53 := Try.zeroValue313,
  t55 := Try.underlying37,
  a55 := Try.isAgg37,
  z55 := Try.sizeOf37,
  v55 := Try.zeroValue37,
  t66 := Try.underlying341,
  a66 := Try.isAgg341,
  z66 := Try.sizeOf341,
  v66 := Try.zeroValue341,
  t70 := Try.underlying344,
  a70 := Try.isAgg344,
  z70 := Try.sizeOf344,
  v70 := Try.zeroValue344,
  t76 := Try.underlying354,
  a76 := Try.isAgg354,
  z76 := Try.sizeOf354,
  v76 := Try.zeroValue354,
  t77 := Try.underlying187,
  a77 := Try.isAgg187,
  z77 := Try.sizeOf187,
  v77 := Try.zeroValue187 }
theorem hb_srtR : HasBody Try.prog 188 := ⟨_, Try.func188, by kernel_rfl, rfl⟩
theorem hb_ea1 : HasBody Try.prog 189 := ⟨_, Try.func189, by kernel_rfl, rfl⟩
theorem sort_rt (g : Option Nat) (c : Nat) (l : List Rt) (hl : l.length ≤ 1000000) : Triple Try.prog 188 [.v (slV g l.length c), .fn (.func 189) []] [.sl g c 49 3 (l.map rtC)] (fun r h' => ∃ ts : List Rt, ts.Perm l ∧ ts.Pairwise (fun x y => Go.Proofs.ltOf orderN y x = false) ∧ r = .tup [] ∧ h' = [.sl g c 49 3 (ts.map rtC)]) :=
  triple_sortFunc (P := Try.prog) (k := 3) srtR rfl hb_srtR rfl ty_49 (by decide) encR (fun _ => rfl) (fun _ => rfl) (fun e v hv => by simp [encR] at hv; rcases hv with rfl | rfl | rfl <;> rfl) orderN swo_rt (fun x y => ec_All1 (a := x) (b := y)) hb_ea1 g c 49 l (by omega)
/- api.Route] -/
set_option maxRecDepth 100000 in
set_option maxHeartbeats 400000 in
theorem clone_Rt {l : List Rt} (hl : l.length ≤ 1000000 := by omega) : Triple Try.prog 187 [.sl 3 (l.map rtC)] [] (Own 49 3 (l.map rtC) []) := by
  refine triple_of Try.func187 rfl (by kernel_rfl) rfl (by simp) ?_
  refine aSeq ?_
  refine aReg ?_
  refine sp pMa ?_
  refine oNil ?_
  refine aSeq ?_
  refine aSeq ?_
  refine aReg ?_
  refine sp pM ?_
  refine sa ?_
  refine oSlNil rfl (.inl rfl) rfl sl_41 rfl (by decide) (fun q4 hq4 => ?_)
  refine oNil ?_
  refine aCond rfl (fun c4 => ?_) (fun c4 => ?_)
  · skip
    refine aSeq ?_
    refine aWeak (weak_nil 49 3) ?_
    refine aReg ?_
    refine sp pMa ?_
    refine oNil ?_
    refine aRet ?_
    have he : l = [] := by
      cases l with
      | nil => rfl
      | cons x l => have := hq4 (by simp); simp_all
    subst he
    exact ⟨_, _, _, rfl, .cons .hd .nil, none, 0, rfl, rfl⟩
  · skip
    refine aSkip ?_
    refine aSeq ?_
    refine aReg ?_
    refine sq ?_
    refine qLit (l := []) rfl rfl (by decide) us_41 ty_49 ze_49 rfl (by decide) (by decide) rfl rfl rfl (fun b5 => ?_)
    refine sp pM ?_
    refine sa ?_
    first | refine oAppT (out := []) _ rfl rfl (by repeat constructor) (.inl rfl) el_41 sl_41 (fun g7 k7 => ?_) | refine oAppT (out := []) _ rfl rfl (by repeat constructor) (srcOwn rfl (by repeat constructor) (by first | rfl | simp)) el_41 sl_41 (fun g7 k7 => ?_)
    refine sp pMa ?_
    refine oNil ?_
    refine aRet ?_
    refine finOwn rfl ?_
    rfl
theorem tailV_in {b n c i : Nat} (h : i ≠ c) : tailV (some b) n c i 1 = .slice (some ⟨b, i * 1, none⟩) (n - i) (c - i) := by unfold tailV; rw [if_neg (fun e => h e.symm)]; rfl
theorem ptr_in {b i : Nat} {j : Int} (h : 0 ≤ j) : (AV.v (.pointer (some ⟨b, i * 1 + j.toNat * 1, none⟩))) = .v (.pointer (some ⟨b, 0 + ((i : Int) + j).toNat * 1, none⟩)) := by
  congr 4
  omega
theorem getD_at {l : List Int} {i : Nat} {x : Int} (h : l[i]? = some x) : l.getD i 0 = x := by rw [List.getD, h]; rfl
theorem cptT_step {l : List Int} {j : Nat} {x y : Int} (hx : l[j]? = some x) (h0 : 0 < j) (hy : l[j - 1]? = some y) : cptT l (j + 1) = cptT l j ++ if x = y then [] else [x] := by
  show cptT l j ++ _ = _
  rw [getD_at hx, getD_at hy]
  congr 1
  by_cases e : x = y
  · rw [if_pos ⟨h0, e⟩, if_pos e]
  · rw [if_neg (fun h => e h.2), if_neg e]
theorem cptT_one {l : List Int} {x : Int} (hx : l[0]? = some x) : cptT l 1 = [x] := by
  show cptT l 0 ++ _ = _
  rw [getD_at hx, if_neg (fun h => Nat.lt_irrefl 0 h.1)]
  rfl
theorem drop_at {l cur : List Int} {k j : Nat} (h : cur.drop k = l.drop k) (hj : k ≤ j) : cur[j]? = l[j]? := by
  have := congrArg (·[j - k]?) h
  simp only [List.getElem?_drop] at this
  rwa [show k + (j - k) = j by omega] at this
/- slices.Compact[[]int,int] -/
def compact_int_r6_T : Bool × List (List Nat × List Nat) := (true, [([], []), ([], []), ([0, 1], [0, 1]), ([2], [2]), ([], []), ([], []), ([5], [5]), ([4, 6], [4, 6]), ([7], [7]), ([3, 8], [3, 8])])
def compact_int_r6_B : List Nat := [0, 0, 3, 7, 0, 0, 32, 112, 240, 511]
theorem compact_int_r6_t : Go.Proofs.YtmcannmjielalaaW.PrintLast.rtab .any (Go.Proofs.YtmcannmjielalaaW.PrintLast.opsOf Try.f194 6) = compact_int_r6_T := by kernel_rfl
theorem compact_int_r6_b : Go.Proofs.YtmcannmjielalaaW.PrintLast.waitsOk compact_int_r6_T.2 compact_int_r6_B = true := by kernel_rfl
def compact_int_r11_T : Bool × List (List Nat × List Nat) := (true, [([], []), ([], []), ([0, 1], [0, 1]), ([2], [2]), ([], []), ([], []), ([5], [5]), ([4, 6], [4, 6]), ([7], [7]), ([3, 8], [3, 8])])
def compact_int_r11_B : List Nat := [0, 0, 3, 7, 0, 0, 32, 112, 240, 511]
theorem compact_int_r11_t : Go.Proofs.YtmcannmjielalaaW.PrintLast.rtab .any (Go.Proofs.YtmcannmjielalaaW.PrintLast.opsOf Try.f194 11) = compact_int_r11_T := by kernel_rfl
theorem compact_int_r11_b : Go.Proofs.YtmcannmjielalaaW.PrintLast.waitsOk compact_int_r11_T.2 compact_int_r11_B = true := by kernel_rfl
set_option maxRecDepth 100000 in
set_option maxHeartbeats 2000000 in
theorem compact_int (g : Option Nat) (c : Nat) (l : List Int) (hl : l.length ≤ 17592186044416) : Triple Try.prog 194 [.v (slV g l.length c)] [.sl g c 3 1 (l.map intA)] (Own 3 1 ((cptL l).map intA) []) := by
  refine triple_of Try.func194 rfl (by kernel_rfl) rfl (by simp) ?_
  refine aSeq ?_
  refine aReg ?_
  refine sp pMa ?_
  refine oNil ?_
  refine aSeq ?_
  refine aSeq ?_
  refine aReg ?_
  refine sp pM ?_
  refine sp (by first | exact pLm sl_25 | exact pLs sl_25 | exact pLv sl_25) ?_
  refine sp pB ?_
  refine oNil ?_
  refine aCondDec rfl (fun c8 => ?_) (fun c8 => ?_)
  · skip
    refine aSeq ?_
    refine aReg ?_
    refine sp pM ?_
    refine sp pMa ?_
    refine oNil ?_
    refine aRet ?_
    refine finOwn rfl ?_
    have hc : cptL l = l := by
      cases l with
      | nil => rfl
      | cons x t =>
        cases t with
        | nil => exact cptT_one rfl
        | cons y t => simp at *; omega
    rw [hc]
  · skip
    refine aSkip ?_
    refine aSeq ?_
    refine aSeq ?_
    refine aSome .hd (by intro e; have := congrArg List.length e; simp only [List.length_map, List.length_nil] at this; omega) (fun b hb => ?_)
    subst hb
    refine aCap .hd (fun hcap => ?_)
    rw [List.length_map] at hcap
    refine aReg ?_
    refine sp pMa ?_
    refine oNil ?_
    refine aBlock ?_
    refine loopF (α := Nat) (kept := [(0, _)]) (fun k => 1 ≤ k ∧ k ≤ l.length ∧ cptT l k = l.take k) (fun k => [(3, .int k)]) (fun k => [.sl (some b) c 3 1 (l.map intA)]) (fun k => l.length - k) 1 ?_ ⟨gInt rfl (by first | rfl | omega | simp), rfl, trivial⟩ (by repeat constructor) ?_
    · skip
      refine ⟨by omega, by omega, ?_⟩
      obtain ⟨z, hz⟩ : ∃ z, l[0]? = some z := ⟨_, List.getElem?_eq_getElem (by omega)⟩
      rw [cptT_one hz, take_step hz]
      rfl
    · rintro k ⟨hk1, hk, hv⟩
      refine aSeq ?_
      refine aSeq ?_
      refine aReg ?_
      refine sp pM ?_
      refine sp pM ?_
      refine sp (by first | exact pLm sl_25 | exact pLs sl_25 | exact pLv sl_25) ?_
      refine sp pB ?_
      refine oNil ?_
      refine aCondDec rfl (fun c13 => ?_) (fun c13 => ?_)
      · skip
        refine aSkip ?_
        refine aSeq ?_
        refine aBlock ?_
        refine aSeq ?_
        obtain ⟨x, hx⟩ : ∃ z, l[k]? = some z := ⟨_, List.getElem?_eq_getElem (by omega)⟩
        obtain ⟨y, hy⟩ : ∃ z, l[(k - 1)]? = some z := ⟨_, List.getElem?_eq_getElem (by omega)⟩
        have hx2 : l[((k : Nat) : Int).toNat]? = some x := by simpa using hx
        have hy2 : l[((k : Int) - 1).toNat]? = some y := by rw [show ((k : Int) - 1).toNat = k - 1 by omega]; exact hy
        refine aDrawT compact_int_r6_t compact_int_r6_b [] 10 #[false, false, false, false, false, false, false, false, false, false] (by kernel_rfl) rfl rfl (fun HT => ?_)
        refine dp HT 0 rfl pM ?_
        refine dp HT 1 rfl pM ?_
        first | refine dp HT 2 rfl (pIx es_25) ?_ | (refine obtDN 16 17 rfl rfl (by omega) (fun x18 hx18 => ?_); refine dp HT 2 rfl (pIs es_25 hx18) ?_) | (refine obtD 16 17 rfl rfl (by omega) (by omega) (fun x18 hx18 => ?_); refine dp HT 2 rfl (pIs es_25 hx18) ?_) | refine dp HT 2 rfl (pIo es_25) ?_
        refine dr HT 3 rfl (rO1 ty_3 hx2) ?_
        refine dp HT 4 rfl pM ?_
        refine dp HT 5 rfl pM ?_
        refine dp HT 6 rfl pSu ?_
        first | refine dp HT 7 rfl (pIx es_25) ?_ | (refine obtDN 20 22 rfl rfl (by omega) (fun x23 hx23 => ?_); refine dp HT 7 rfl (pIs es_25 hx23) ?_) | (refine obtD 20 22 rfl rfl (by omega) (by omega) (fun x23 hx23 => ?_); refine dp HT 7 rfl (pIs es_25 hx23) ?_) | refine dp HT 7 rfl (pIo es_25) ?_
        refine dr HT 8 rfl (rO1 ty_3 hy2) ?_
        refine dp HT 9 rfl pB ?_
        refine dE HT ?_
        clear HT
        refine aCondEq rfl (fun c25 => ?_) (fun c25 => ?_)
        · skip
          refine aSeq ?_
          have hxy : x = y := by assumption
          refine aReg ?_
          refine sp pM ?_
          refine sp pM ?_
          refine sp (pSlLo rfl rfl es_25 (bdI rfl) (by omega) (by omega)) ?_
          rw [tailV_in (by omega)]
          refine sp pMa ?_
          refine oNil ?_
          refine aSeq ?_
          refine aSeq ?_
          refine aReg ?_
          refine sp pMa ?_
          refine oNil ?_
          refine aBlock ?_
          refine loopF (α := Nat × Nat × List Int) (kept := [(0, _), (4, _)]) (fun (j, k2, cur) => 1 ≤ k2 ∧ k + k2 ≤ l.length ∧ k ≤ j ∧ j + 1 ≤ k + k2 ∧ cur.length = l.length ∧ cur.take j = cptT l (k + k2) ∧ cur.drop j = l.drop j) (fun (j, k2, cur) => [(3, .int j), (5, .int k2)]) (fun (j, k2, cur) => [.sl (some b) c 3 1 (cur.map intA)]) (fun (j, k2, cur) => l.length - (k + k2)) (k, 1, l) ?_ ⟨gInt rfl (by first | rfl | omega | simp), gInt rfl (by first | rfl | omega | simp), rfl, rfl, trivial⟩ (by repeat constructor) ?_
          · skip
            refine ⟨by omega, by omega, Nat.le_refl _, by omega, rfl, ?_, rfl⟩
            rw [cptT_step hx (by omega) hy, if_pos hxy, List.append_nil, hv]
          · rintro ⟨j, k2, cur⟩ ⟨h21, h2l, hkj, hj, hcl, htk, hdr⟩
            refine aSeq ?_
            refine aSeq ?_
            refine aReg ?_
            refine sp pM ?_
            refine sp pM ?_
            refine sp (by first | exact pLm sl_25 | exact pLs sl_25 | exact pLv sl_25) ?_
            refine sp pB ?_
            refine oNil ?_
            refine aCondDec rfl (fun c32 => ?_) (fun c32 => ?_)
            · skip
              refine aSkip ?_
              refine aSeq ?_
              refine aBlock ?_
              refine aSeq ?_
              obtain ⟨u, hu⟩ : ∃ z, l[(k + k2)]? = some z := ⟨_, List.getElem?_eq_getElem (by omega)⟩
              obtain ⟨w, hw⟩ : ∃ z, l[(k + k2 - 1)]? = some z := ⟨_, List.getElem?_eq_getElem (by omega)⟩
              have hu2 : cur[((k : Int) + (k2 : Int)).toNat]? = some u := by rw [show ((k : Int) + (k2 : Int)).toNat = k + k2 by omega, drop_at hdr (by omega)]; exact hu
              have hw2 : cur[((k : Int) + ((k2 : Int) - 1)).toNat]? = some w := by rw [show ((k : Int) + ((k2 : Int) - 1)).toNat = k + k2 - 1 by omega, drop_at hdr (by omega)]; exact hw
              have hst := cptT_step hu (by omega) hw
              refine aDrawT compact_int_r11_t compact_int_r11_b [] 10 #[false, false, false, false, false, false, false, false, false, false] (by kernel_rfl) rfl rfl (fun HT => ?_)
              refine dp HT 0 rfl pM ?_
              refine dp HT 1 rfl pM ?_
              first | refine dp HT 2 rfl (pIx es_25) ?_ | (refine obtDN 35 36 rfl rfl (by omega) (fun x37 hx37 => ?_); refine dp HT 2 rfl (pIs es_25 hx37) ?_) | (refine obtD 35 36 rfl rfl (by omega) (by omega) (fun x37 hx37 => ?_); refine dp HT 2 rfl (pIs es_25 hx37) ?_) | refine dp HT 2 rfl (pIo es_25) ?_
              rw [ptr_in (by omega)]
              refine dr HT 3 rfl (rO1 ty_3 hu2) ?_
              refine dp HT 4 rfl pM ?_
              refine dp HT 5 rfl pM ?_
              refine dp HT 6 rfl pSu ?_
              first | refine dp HT 7 rfl (pIx es_25) ?_ | (refine obtDN 39 41 rfl rfl (by omega) (fun x42 hx42 => ?_); refine dp HT 7 rfl (pIs es_25 hx42) ?_) | (refine obtD 39 41 rfl rfl (by omega) (by omega) (fun x42 hx42 => ?_); refine dp HT 7 rfl (pIs es_25 hx42) ?_) | refine dp HT 7 rfl (pIo es_25) ?_
              rw [ptr_in (by omega)]
              refine dr HT 8 rfl (rO1 ty_3 hw2) ?_
              refine dp HT 9 rfl pB ?_
              refine dE HT ?_
              clear HT
              refine aCondNe rfl (fun c44 => ?_) (fun c44 => ?_)
              · skip
                refine aSeq ?_
                refine aReg ?_
                refine sp pM ?_
                refine sp pM ?_
                refine sp pM ?_
                refine sp pM ?_
                first | refine sp (pIx es_25) ?_ | (refine obtSN 47 48 rfl rfl (by omega) (fun x49 hx49 => ?_); refine sp (pIs es_25 hx49) ?_) | (refine obtS 47 48 rfl rfl (by omega) (by omega) (fun x49 hx49 => ?_); refine sp (pIs es_25 hx49) ?_) | refine sp (pIo es_25) ?_
                rw [ptr_in (by omega)]
                refine sr (rO1 ty_3 hu2) ?_
                first | refine sp (pIx es_25) ?_ | (refine obtSN 45 46 rfl rfl (by omega) (fun x51 hx51 => ?_); refine sp (pIs es_25 hx51) ?_) | (refine obtS 45 46 rfl rfl (by omega) (by omega) (fun x51 hx51 => ?_); refine sp (pIs es_25 hx51) ?_) | refine sp (pIo es_25) ?_
                refine sa ?_
                refine oStE (fC := intA) (l := cur) (a := u) (i := (j : Int)) rfl rfl rfl rfl ty_3 ?_
                refine oNil ?_
                refine aReg ?_
                refine sp pM ?_
                refine sp pAd ?_
                refine sp pMa ?_
                refine oNil ?_
                refine aReg ?_
                refine sp pM ?_
                refine sp pAd ?_
                refine sp pMa ?_
                refine oNil ?_
                first
                  | (refine ⟨(j + 1, k2 + 1, _), ?_, by (try dsimp only); omega, ⟨gInt rfl (by first | rfl | omega | simp), gInt rfl (by first | rfl | omega | simp), rfl, rfl, trivial⟩, _, (by repeat constructor)⟩
                     refine ⟨by omega, by omega, by omega, by omega, by rw [List.length_set]; exact hcl, ?_, ?_⟩
                     · rw [show k + (k2 + 1) = k + k2 + 1 by omega, hst, if_neg (by assumption), ← htk, Int.toNat_natCast]; exact take_set_succ (by omega)
                     · rw [Int.toNat_natCast, List.drop_set_of_lt (by omega), ← List.drop_drop, hdr, List.drop_drop])
                  | (refine ⟨(j, k2 + 1, _), ?_, by (try dsimp only); omega, ⟨gInt rfl (by first | rfl | omega | simp), gInt rfl (by first | rfl | omega | simp), rfl, rfl, trivial⟩, _, (by repeat constructor)⟩
                     refine ⟨by omega, by omega, by omega, by omega, hcl, ?_, hdr⟩
                     rw [show k + (k2 + 1) = k + k2 + 1 by omega, hst, if_pos (by omega), List.append_nil, htk])
              · skip
                refine aSkip ?_
                refine aReg ?_
                refine sp pM ?_
                refine sp pAd ?_
                refine sp pMa ?_
                refine oNil ?_
                first
                  | (refine ⟨(j + 1, k2 + 1, _), ?_, by (try dsimp only); omega, ⟨gInt rfl (by first | rfl | omega | simp), gInt rfl (by first | rfl | omega | simp), rfl, rfl, trivial⟩, _, (by repeat constructor)⟩
                     refine ⟨by omega, by omega, by omega, by omega, by rw [List.length_set]; exact hcl, ?_, ?_⟩
                     · rw [show k + (k2 + 1) = k + k2 + 1 by omega, hst, if_neg (by assumption), ← htk, Int.toNat_natCast]; exact take_set_succ (by omega)
                     · rw [Int.toNat_natCast, List.drop_set_of_lt (by omega), ← List.drop_drop, hdr, List.drop_drop])
                  | (refine ⟨(j, k2 + 1, _), ?_, by (try dsimp only); omega, ⟨gInt rfl (by first | rfl | omega | simp), gInt rfl (by first | rfl | omega | simp), rfl, rfl, trivial⟩, _, (by repeat constructor)⟩
                     refine ⟨by omega, by omega, by omega, by omega, hcl, ?_, hdr⟩
                     rw [show k + (k2 + 1) = k + k2 + 1 by omega, hst, if_pos (by omega), List.append_nil, htk])
            · skip
              refine aExit rfl ?_
              refine aSeq ?_
              refine aReg ?_
              refine sp pM ?_
              refine sp pM ?_
              refine sp (pSlLo rfl rfl es_25 (bdI rfl) (by omega) (by omega)) ?_
              refine sa ?_
              refine oClearT (zs := [.int 0]) rfl rfl rfl .hd (by rw [List.length_map]; omega) (by omega) el_25 ze_3 rfl rfl (by intro F w j av x hj hx; repeat (first | (cases j with | zero => (simp at hj; simp [Value.cells] at hx; subst hj; subst hx; exact .v _) | succ j => _) | (simp at hj; done))) ?_
              refine oNil ?_
              refine aSeq ?_
              refine aReg ?_
              refine sp pM ?_
              refine sp pM ?_
              refine sp (pSlHi rfl rfl es_25 (bdI rfl) (by omega)) ?_
              refine sp pMa ?_
              refine oNil ?_
              refine aWeak (weak_cut j .hd) ?_
              refine aRet ?_
              have hil : (List.map intA cur).length = cur.length := by simp
              have hk2 : k + k2 = l.length := by omega
              rw [hk2] at htk
              refine finOwn rfl ?_
              rw [List.take_append_of_le_length (by rw [List.length_take]; omega), List.take_take, Nat.min_self, ← List.map_take, htk]
              rfl
        · skip
          refine aSkip ?_
          refine aReg ?_
          refine sp pM ?_
          refine sp pAd ?_
          refine sp pMa ?_
          refine oNil ?_
          refine ⟨k + 1, ?_, by (try dsimp only); omega, ⟨gInt rfl (by first | rfl | omega | simp), rfl, trivial⟩, _, (by repeat constructor)⟩
          refine ⟨by omega, by omega, ?_⟩
          rw [cptT_step hx (by omega) hy, if_neg (by assumption), hv, take_step hx]
      · skip
        refine aExit rfl ?_
        refine aSeq ?_
        refine aReg ?_
        refine sp pM ?_
        refine sp pMa ?_
        refine oNil ?_
        refine aRet ?_
        obtain rfl : k = l.length := by omega
        rw [List.take_length] at hv
        refine finOwn rfl ?_
        rw [show cptL l = l from hv]
end A
end Go.Proofs.Ytmcannmjielalaa
set_option linter.unusedVariables false
set_option linter.unusedSimpArgs false
namespace Go.Proofs.Ytmcannmjielalaa
namespace A
theorem fd_234_0 : fieldOf Try.prog 234 0 = some (0, 1, false) := by kernel_rfl
theorem fd_234_1 : fieldOf Try.prog 234 1 = some (1, 1, false) := by kernel_rfl
theorem fd_234_2 : fieldOf Try.prog 234 2 = some (2, 1, false) := by kernel_rfl
theorem fd_234_3 : fieldOf Try.prog 234 3 = some (3, 1, false) := by kernel_rfl
theorem mo_231 : mapOf Try.prog 231 = some (3, 37) := by kernel_rfl
theorem mo_232 : mapOf Try.prog 232 = some (3, 25) := by kernel_rfl
theorem ty_231 : tyOf Try.prog 231 = some (1, false) := by kernel_rfl
theorem ty_232 : tyOf Try.prog 232 = some (1, false) := by kernel_rfl
theorem ze_37 : zeroOf Try.prog 37 = some (.int .u64 0) := by kernel_rfl
def onB (r : Int) (at_ : List (Int × Int)) (a : Arc) : Bool := ((mGet at_ a.f).isSome && (mGet at_ a.t).isSome) && (a.t != r) && ((mGet at_ a.f).getD 0 + a.c == (mGet at_ a.t).getD 0)
def mAt (mm : List (Int × Int)) (k : Int) : Int := (mGet mm k).getD 0
theorem mAt_put {mm : List (Int × Int)} {n k v : Int} : mAt (mPut mm n v) k = if k = n then v else mAt mm k := by
  unfold mAt
  rw [mGet_put]
  split <;> rfl
/- ecmp.sums).on -/
def ec_on_r1_T : Bool × List (List Nat × List Nat) := (true, [([], []), ([0], [0]), ([1], [1]), ([2], [2]), ([], []), ([4], [4]), ([3, 5], [3, 5]), ([6], [6]), ([7], [7]), ([7], [7]), ([8, 0, 1, 2, 3, 4, 5, 6, 7, 8], [8]), ([9, 10, 0, 1, 2, 3, 4, 5, 6, 7, 8, 9, 10], [9])])
def ec_on_r1_B : List Nat := [0, 1, 3, 7, 0, 16, 63, 127, 255, 255, 511, 2047]
theorem ec_on_r1_t : Go.Proofs.YtmcannmjielalaaW.PrintLast.rtab .any (Go.Proofs.YtmcannmjielalaaW.PrintLast.opsOf Try.f191 1) = ec_on_r1_T := by kernel_rfl
theorem ec_on_r1_b : Go.Proofs.YtmcannmjielalaaW.PrintLast.waitsOk ec_on_r1_T.2 ec_on_r1_B = true := by kernel_rfl
def ec_on_r2_T : Bool × List (List Nat × List Nat) := (true, [([], []), ([0], [0]), ([1], [1]), ([2], [2]), ([], []), ([4], [4]), ([3, 5], [3, 5]), ([6], [6]), ([7], [7]), ([7], [7]), ([8, 0, 1, 2, 3, 4, 5, 6, 7, 8], [8]), ([9, 10, 0, 1, 2, 3, 4, 5, 6, 7, 8, 9, 10], [9])])
def ec_on_r2_B : List Nat := [0, 1, 3, 7, 0, 16, 63, 127, 255, 255, 511, 2047]
theorem ec_on_r2_t : Go.Proofs.YtmcannmjielalaaW.PrintLast.rtab .any (Go.Proofs.YtmcannmjielalaaW.PrintLast.opsOf Try.f191 2) = ec_on_r2_T := by kernel_rfl
theorem ec_on_r2_b : Go.Proofs.YtmcannmjielalaaW.PrintLast.waitsOk ec_on_r2_T.2 ec_on_r2_B = true := by kernel_rfl
def ec_on_r3_T : Bool × List (List Nat × List Nat) := (true, [([], []), ([0], [0]), ([1], [1]), ([1, 2], [1, 2]), ([3, 1], [3]), ([4], [4]), ([5, 4], [4, 5]), ([4], [4]), ([7, 4], [4, 7]), ([8, 4], [4, 8]), ([9, 4], [4, 9]), ([6, 10, 4], [4, 6, 10]), ([4, 11], [4, 11]), ([12, 4], [12]), ([13], [13]), ([13], [13]), ([15, 13], [13, 15]), ([16, 13], [13, 16]), ([14, 17, 13, 13], [13, 14, 17]), ([13], [13]), ([18, 19, 13], [13, 18, 19]), ([13, 20], [13, 20]), ([21, 18, 0, 1, 2, 3, 4, 5, 6, 7, 8, 9, 10, 11, 12, 13, 14, 15, 16, 17, 18, 19, 20, 21], [21])])
def ec_on_r3_B : List Nat := [0, 1, 3, 7, 15, 31, 63, 31, 159, 415, 927, 2047, 4095, 8191, 16383, 16383, 49151, 114687, 262143, 16383, 1048575, 2097151, 4194303]
theorem ec_on_r3_t : Go.Proofs.YtmcannmjielalaaW.PrintLast.rtab .any (Go.Proofs.YtmcannmjielalaaW.PrintLast.opsOf Try.f191 3) = ec_on_r3_T := by kernel_rfl
theorem ec_on_r3_b : Go.Proofs.YtmcannmjielalaaW.PrintLast.waitsOk ec_on_r3_T.2 ec_on_r3_B = true := by kernel_rfl
set_option maxRecDepth 100000 in
set_option maxHeartbeats 2000000 in
theorem ec_on {r : Int} (sb ab vb mb : Nat) (at_ : List (Int × Int)) (m : List (Int × SlE Int)) (mm : List (Int × Int)) (a : Arc) (hat : ∀ v, 0 ≤ (mGet at_ v).getD 0 ∧ (mGet at_ v).getD 0 ≤ 1152921504606846976) (hc : 0 ≤ a.c ∧ a.c ≤ 1073741824) : Triple Try.prog 191 [(.v (.pointer (some ⟨sb, 0, none⟩))), .agg (arcC a)] [.box sb [.int r, .v (.map (some ab)), .v (.map (some vb)), .v (.map (some mb))], .map ab (kvM u64A at_), .map vb (kvM slE m), .map mb (kvM u64A mm), .fam 3 1 (famL intA m)] (Is (.v (.bool (onB r at_ a))) [.box sb [.int r, .v (.map (some ab)), .v (.map (some vb)), .v (.map (some mb))], .map ab (kvM u64A at_), .map vb (kvM slE m), .map mb (kvM u64A mm), .fam 3 1 (famL intA m)]) := by
  have hf := hat a.f
  have ht := hat a.t
  refine triple_of Try.func191 rfl (by kernel_rfl) rfl (by simp) ?_
  refine aSeq ?_
  refine aReg ?_
  refine sq ?_
  refine qBox rfl rfl (by decide) rfl rfl (fun b3 => ?_)
  refine sp pMa ?_
  refine oNil ?_
  refine aSeq ?_
  refine aDrawT ec_on_r1_t ec_on_r1_b [] 12 #[false, false, false, false, false, false, false, false, false, false, false, false] (by kernel_rfl) rfl rfl (fun HT => ?_)
  refine dp HT 0 rfl pM ?_
  refine dp HT 1 rfl pNv ?_
  refine dp HT 2 rfl (pFb fd_234_1) ?_
  refine dr HT 3 rfl (rB1 ty_231) ?_
  refine dp HT 4 rfl (pFb fd_36_0) ?_
  refine dr HT 5 rfl (rB1 ty_3) ?_
  refine dr HT 6 rfl (rMGo mo_231 ze_37 (0 : Int) .refl) ?_
  refine dp HT 7 rfl pM ?_
  refine dp HT 8 rfl pX ?_
  refine dp HT 9 rfl pX ?_
  refine dp HT 10 rfl pMa ?_
  refine dp HT 11 rfl pMa ?_
  refine dE HT ?_
  clear HT
  refine aSeq ?_
  refine aDrawT ec_on_r2_t ec_on_r2_b [] 12 #[false, false, false, false, false, false, false, false, false, false, false, false] (by kernel_rfl) rfl rfl (fun HT => ?_)
  refine dp HT 0 rfl pM ?_
  refine dp HT 1 rfl pNv ?_
  refine dp HT 2 rfl (pFb fd_234_1) ?_
  refine dr HT 3 rfl (rB1 ty_231) ?_
  refine dp HT 4 rfl (pFb fd_36_1) ?_
  refine dr HT 5 rfl (rB1 ty_3) ?_
  refine dr HT 6 rfl (rMGo mo_231 ze_37 (0 : Int) .refl) ?_
  refine dp HT 7 rfl pM ?_
  refine dp HT 8 rfl pX ?_
  refine dp HT 9 rfl pX ?_
  refine dp HT 10 rfl pMa ?_
  refine dp HT 11 rfl pMa ?_
  refine dE HT ?_
  clear HT
  refine aSeq ?_
  refine aDrawT ec_on_r3_t ec_on_r3_b [] 23 #[false, false, false, false, false, false, false, false, false, false, false, false, false, false, false, false, false, false, false, false, false, false, false] (by kernel_rfl) rfl rfl (fun HT => ?_)
  refine dp HT 0 rfl pM ?_
  refine dp HT 1 rfl pM ?_
  refine dSplit 30 rfl (fun c30 => ?_) (fun c30 => ?_)
  · skip
    refine dpG HT 2 rfl pM ?_
    refine dp HT 3 rfl pK ?_
    refine dp HT 4 rfl pM ?_
    refine dSplit 33 rfl (fun c33 => ?_) (fun c33 => ?_)
    · skip
      refine dpG HT 5 rfl (pFb fd_36_1) ?_
      refine drG HT 6 rfl (rB1 ty_3) ?_
      refine dpG HT 7 rfl pM ?_
      refine dpG HT 8 rfl pNv ?_
      refine dpG HT 9 rfl (pFb fd_234_0) ?_
      refine drG HT 10 rfl (rB1 ty_3) ?_
      refine dpG HT 11 rfl pB ?_
      refine dp HT 12 rfl pK ?_
      refine dp HT 13 rfl pM ?_
      refine dSplitNe 42 rfl (fun c42 => ?_) (fun c42 => ?_)
      · skip
        refine dpG HT 14 rfl pM ?_
        refine dpG HT 15 rfl (pFb fd_36_2) ?_
        refine drG HT 16 rfl (rB1 ty_3) ?_
        refine dpG HT 17 rfl (by first | exact pCvK ik_3 ik_37 | exact pConv rfl rfl ik_3 ik_37 rfl) ?_
        refine dpG HT 19 rfl pM ?_
        refine dGo ?_
        refine e1G HT 18 rfl ?_
        refine cv rfl rfl rfl (lents_refl _) (cost_Add (by omega) (by omega) (by omega) (by omega)) ?_
        rw [if_neg (by omega)]
        refine efG HT 20 rfl pB ?_
        refine ef HT 21 rfl pK ?_
        refine ePure (i := 22) #[true, true, true, true, true, true, true, true, true, true, true, true, true, true, true, true, true, true, true, true, true, true, true] rfl rfl rfl (HT.any (by kernel_rfl)) (by exact pMa) (by decide) ?_
        refine eE HT ?_
        clear HT
        refine aRet ?_
        refine finIs rfl ?_ (.cons (by repeat constructor) (.cons (by repeat constructor) (.cons (by repeat constructor) (.cons (by repeat constructor) (.cons (by repeat constructor) .nil)))))
        unfold onB
        simp_all [retOf]
      · skip
        refine dS HT 14 rfl ?_
        refine dS HT 15 rfl ?_
        refine dS HT 16 rfl ?_
        refine dS HT 17 rfl ?_
        refine dS HT 18 rfl ?_
        refine dS HT 19 rfl ?_
        refine dS HT 20 rfl ?_
        refine dp HT 21 rfl pK ?_
        refine dp HT 22 rfl pMa ?_
        refine dE HT ?_
        clear HT
        refine aRet ?_
        refine finIs rfl ?_ (.cons (by repeat constructor) (.cons (by repeat constructor) (.cons (by repeat constructor) (.cons (by repeat constructor) (.cons (by repeat constructor) .nil)))))
        unfold onB
        simp_all [retOf]
    · skip
      refine dS HT 5 rfl ?_
      refine dS HT 6 rfl ?_
      refine dS HT 7 rfl ?_
      refine dS HT 8 rfl ?_
      refine dS HT 9 rfl ?_
      refine dS HT 10 rfl ?_
      refine dS HT 11 rfl ?_
      refine dp HT 12 rfl pK ?_
      refine dp HT 13 rfl pM ?_
      refine dS HT 14 rfl ?_
      refine dS HT 15 rfl ?_
      refine dS HT 16 rfl ?_
      refine dS HT 17 rfl ?_
      refine dS HT 18 rfl ?_
      refine dS HT 19 rfl ?_
      refine dS HT 20 rfl ?_
      refine dp HT 21 rfl pK ?_
      refine dp HT 22 rfl pMa ?_
      refine dE HT ?_
      clear HT
      refine aRet ?_
      refine finIs rfl ?_ (.cons (by repeat constructor) (.cons (by repeat constructor) (.cons (by repeat constructor) (.cons (by repeat constructor) (.cons (by repeat constructor) .nil)))))
      unfold onB
      simp_all [retOf]
  · skip
    refine dS HT 2 rfl ?_
    refine dp HT 3 rfl pK ?_
    refine dp HT 4 rfl pM ?_
    refine dS HT 5 rfl ?_
    refine dS HT 6 rfl ?_
    refine dS HT 7 rfl ?_
    refine dS HT 8 rfl ?_
    refine dS HT 9 rfl ?_
    refine dS HT 10 rfl ?_
    refine dS HT 11 rfl ?_
    refine dp HT 12 rfl pK ?_
    refine dp HT 13 rfl pM ?_
    refine dS HT 14 rfl ?_
    refine dS HT 15 rfl ?_
    refine dS HT 16 rfl ?_
    refine dS HT 17 rfl ?_
    refine dS HT 18 rfl ?_
    refine dS HT 19 rfl ?_
    refine dS HT 20 rfl ?_
    refine dp HT 21 rfl pK ?_
    refine dp HT 22 rfl pMa ?_
    refine dE HT ?_
    clear HT
    refine aRet ?_
    refine finIs rfl ?_ (.cons (by repeat constructor) (.cons (by repeat constructor) (.cons (by repeat constructor) (.cons (by repeat constructor) (.cons (by repeat constructor) .nil)))))
    unfold onB
    simp_all [retOf]
/- ecmp.sums).join -/
def ec_join_r1_T : Bool × List (List Nat × List Nat) := (true, [([], []), ([0], [0]), ([], []), ([2], [2]), ([3], [3]), ([4], [4]), ([1, 5], [1, 5])])
def ec_join_r1_B : List Nat := [0, 1, 0, 4, 12, 28, 63]
theorem ec_join_r1_t : Go.Proofs.YtmcannmjielalaaW.PrintLast.rtab .any (Go.Proofs.YtmcannmjielalaaW.PrintLast.opsOf Try.f192 1) = ec_join_r1_T := by kernel_rfl
theorem ec_join_r1_b : Go.Proofs.YtmcannmjielalaaW.PrintLast.waitsOk ec_join_r1_T.2 ec_join_r1_B = true := by kernel_rfl
def ec_join_r2_T : Bool × List (List Nat × List Nat) := (true, [([], []), ([0], [0]), ([1], [1]), ([2], [2]), ([], []), ([4], [4]), ([], []), ([6], [6]), ([7], [7]), ([8], [8]), ([], []), ([10], [10]), ([9, 11], [9, 11]), ([], []), ([13], [13]), ([14], [14]), ([12, 15], [12, 15]), ([3, 5, 16, 16, 0, 1, 2, 3, 4, 5, 6, 7, 8, 9, 10, 11, 12, 13, 14, 15, 16], [3, 5, 16])])
def ec_join_r2_B : List Nat := [0, 1, 3, 7, 0, 16, 0, 64, 192, 448, 0, 1024, 4032, 0, 8192, 24576, 65472, 131071]
theorem ec_join_r2_t : Go.Proofs.YtmcannmjielalaaW.PrintLast.rtab .any (Go.Proofs.YtmcannmjielalaaW.PrintLast.opsOf Try.f192 2) = ec_join_r2_T := by kernel_rfl
theorem ec_join_r2_b : Go.Proofs.YtmcannmjielalaaW.PrintLast.waitsOk ec_join_r2_T.2 ec_join_r2_B = true := by kernel_rfl
def ec_join_r3_T : Bool × List (List Nat × List Nat) := (true, [([], []), ([0], [0]), ([1], [1]), ([2], [2]), ([], []), ([4], [4]), ([], []), ([6], [6]), ([7], [7]), ([8], [8]), ([], []), ([10], [10]), ([9, 11], [9, 11]), ([12], [12]), ([3, 5, 13, 13, 0, 1, 2, 3, 4, 5, 6, 7, 8, 9, 10, 11, 12, 13], [3, 5, 13])])
def ec_join_r3_B : List Nat := [0, 1, 3, 7, 0, 16, 0, 64, 192, 448, 0, 1024, 4032, 8128, 16383]
theorem ec_join_r3_t : Go.Proofs.YtmcannmjielalaaW.PrintLast.rtab .any (Go.Proofs.YtmcannmjielalaaW.PrintLast.opsOf Try.f192 3) = ec_join_r3_T := by kernel_rfl
theorem ec_join_r3_b : Go.Proofs.YtmcannmjielalaaW.PrintLast.waitsOk ec_join_r3_T.2 ec_join_r3_B = true := by kernel_rfl
def ec_join_r4_T : Bool × List (List Nat × List Nat) := (true, [([], []), ([0], [0]), ([1], [1]), ([2], [2]), ([], []), ([4], [4]), ([], []), ([6], [6]), ([7], [7]), ([8], [8]), ([], []), ([10], [10]), ([9, 11], [9, 11]), ([], []), ([13], [13]), ([14], [14]), ([15], [15]), ([], []), ([17], [17]), ([16, 18], [16, 18]), ([12, 19], [12, 19]), ([3, 5, 20, 20, 0, 1, 2, 3, 4, 5, 6, 7, 8, 9, 10, 11, 12, 13, 14, 15, 16, 17, 18, 19, 20], [3, 5, 20])])
def ec_join_r4_B : List Nat := [0, 1, 3, 7, 0, 16, 0, 64, 192, 448, 0, 1024, 4032, 0, 8192, 24576, 57344, 0, 131072, 516096, 1048512, 2097151]
theorem ec_join_r4_t : Go.Proofs.YtmcannmjielalaaW.PrintLast.rtab .any (Go.Proofs.YtmcannmjielalaaW.PrintLast.opsOf Try.f192 4) = ec_join_r4_T := by kernel_rfl
theorem ec_join_r4_b : Go.Proofs.YtmcannmjielalaaW.PrintLast.waitsOk ec_join_r4_T.2 ec_join_r4_B = true := by kernel_rfl
def ec_join_r5_T : Bool × List (List Nat × List Nat) := (true, [([], []), ([0], [0]), ([1], [1]), ([2], [2]), ([], []), ([4], [4]), ([], []), ([6], [6]), ([7], [7]), ([8], [8]), ([], []), ([10], [10]), ([9, 11], [9, 11]), ([], []), ([13], [13]), ([14], [14]), ([15], [15]), ([], []), ([17], [17]), ([16, 18], [16, 18]), ([12, 19], [12, 19]), ([3, 5, 20, 20, 0, 1, 2, 3, 4, 5, 6, 7, 8, 9, 10, 11, 12, 13, 14, 15, 16, 17, 18, 19, 20], [3, 5, 20])])
def ec_join_r5_B : List Nat := [0, 1, 3, 7, 0, 16, 0, 64, 192, 448, 0, 1024, 4032, 0, 8192, 24576, 57344, 0, 131072, 516096, 1048512, 2097151]
theorem ec_join_r5_t : Go.Proofs.YtmcannmjielalaaW.PrintLast.rtab .any (Go.Proofs.YtmcannmjielalaaW.PrintLast.opsOf Try.f192 5) = ec_join_r5_T := by kernel_rfl
theorem ec_join_r5_b : Go.Proofs.YtmcannmjielalaaW.PrintLast.waitsOk ec_join_r5_T.2 ec_join_r5_B = true := by kernel_rfl
set_option maxRecDepth 100000 in
set_option maxHeartbeats 4000000 in
theorem ec_join {r : Int} (sb ab vb mb : Nat) (at_ : List (Int × Int)) (m : List (Int × SlE Int)) (mm : List (Int × Int)) (a : Arc) (hne : a.f ≠ a.t) (hlen : (slAt m a.t).l.length + (slAt m a.f).l.length + 1 ≤ 17592186044416) (hmm : ∀ v, 0 ≤ mAt mm v ∧ mAt mm v ≤ 18446744073709551615) : Triple Try.prog 192 [(.v (.pointer (some ⟨sb, 0, none⟩))), .agg (arcC a)] [.box sb [.int r, .v (.map (some ab)), .v (.map (some vb)), .v (.map (some mb))], .map ab (kvM u64A at_), .map vb (kvM slE m), .map mb (kvM u64A mm), .fam 3 1 (famL intA m)] (fun q h' => ∃ m' mm', q = .tup [] ∧ h' = [.box sb [.int r, .v (.map (some ab)), .v (.map (some vb)), .v (.map (some mb))], .map ab (kvM u64A at_), .map vb (kvM slE m'), .map mb (kvM u64A mm'), .fam 3 1 (famL intA m')] ∧ (∀ k, (slAt m' k).l = if k = a.t then (slAt m k).l ++ (if a.f = r then [a.t] else (slAt m a.f).l) else (slAt m k).l) ∧ ∀ k, mAt mm' k = if k = a.t then addS (mAt mm k) (if a.f = r then 1 else mAt mm a.f) else mAt mm k) := by
  have hm1 := hmm a.t
  have hm2 := hmm a.f
  refine triple_of Try.func192 rfl (by kernel_rfl) rfl (by simp) ?_
  refine aSeq ?_
  refine aReg ?_
  refine sq ?_
  refine qBox rfl rfl (by decide) rfl rfl (fun b3 => ?_)
  refine oNil ?_
  refine aSeq ?_
  refine aSeq ?_
  refine aDrawT ec_join_r1_t ec_join_r1_b [] 7 #[false, false, false, false, false, false, false] (by kernel_rfl) rfl rfl (fun HT => ?_)
  refine dp HT 0 rfl (pFb fd_36_0) ?_
  refine dr HT 1 rfl (rB1 ty_3) ?_
  refine dp HT 2 rfl pM ?_
  refine dp HT 3 rfl pNv ?_
  refine dp HT 4 rfl (pFb fd_234_0) ?_
  refine dr HT 5 rfl (rB1 ty_3) ?_
  refine dp HT 6 rfl pB ?_
  refine dE HT ?_
  clear HT
  refine aCondEq rfl (fun c10 => ?_) (fun c10 => ?_)
  · skip
    refine aSeq ?_
    refine aWeak (weak_famAt a.t) ?_
    refine aDrawS (h1 := [.box b3 _, .box sb _, .map vb _]) ec_join_r2_t ec_join_r2_b [17] 18 #[false, false, false, false, false, false, false, false, false, false, false, false, false, false, false, false, false, false] (by kernel_rfl) rfl rfl (.cons (by repeat constructor) (.cons (by repeat constructor) (.cons (by repeat constructor) .nil))) (fun HT => ?_)
    refine ep HT 0 rfl pM ?_
    refine ep HT 1 rfl pNv ?_
    refine ep HT 2 rfl (pFb fd_234_2) ?_
    refine er HT 3 rfl (rB1 ty_232) ?_
    refine ep HT 4 rfl (pFb fd_36_1) ?_
    refine er HT 5 rfl (rB1 ty_3) ?_
    refine ep HT 6 rfl pM ?_
    refine ep HT 7 rfl pNv ?_
    refine ep HT 8 rfl (pFb fd_234_2) ?_
    refine er HT 9 rfl (rB1 ty_232) ?_
    refine ep HT 10 rfl (pFb fd_36_1) ?_
    refine er HT 11 rfl (rB1 ty_3) ?_
    refine er HT 12 rfl (rMG mo_232 ze_25 (sl0 : SlE Int) .refl) ?_
    refine ep HT 13 rfl (pFb fd_36_1) ?_
    refine er HT 14 rfl (rB1 ty_3) ?_
    refine e1 HT 15 rfl ?_
    refine qLit (l := [_]) rfl rfl (by decide) us_25 ty_3 ze_3 rfl (by decide) (by decide) rfl rfl rfl (fun b26 => ?_)
    refine eOneS (i := 16) #[true, true, true, true, true, true, true, true, true, true, true, true, true, true, true, true, true, false] rfl (HT.one (by kernel_rfl)) (by decide) ?_
    · skip
      refine stA (hx := [.sl (slAt m a.t).g _ _ _ _, .sl (some b26) _ _ _ _]) (wantN rfl) (fun t ht => by cases ht <;> decide) (.cons (by repeat constructor) (.cons (by repeat constructor) .nil)) (by repeat constructor) ?_
      refine (oAppT8 (out := (slAt m a.t).l) (xs := [a.t]) rfl rfl (by repeat constructor) (srcOwn rfl (by repeat constructor) rfl) el_25 sl_25 (fun g27 k27 => ?_))
      refine undel (d := 27) rfl ?_
      dsimp only [List.cons_append, List.nil_append]
      refine eLast ?_
      refine f1 HT 17 rfl ?_
      refine oMP (c := slE) (v := (⟨g27, k27, (slAt m a.t).l ++ [a.t]⟩ : SlE Int)) rfl rfl rfl rfl mo_232 ?_
      refine fE HT ?_
      clear HT
      refine aSeq ?_
      refine aWeak (weak_famSet a.t) ?_
      refine aDrawT ec_join_r3_t ec_join_r3_b [14] 15 #[false, false, false, false, false, false, false, false, false, false, false, false, false, false, false] (by kernel_rfl) rfl rfl (fun HT => ?_)
      refine dp HT 0 rfl pM ?_
      refine dp HT 1 rfl pNv ?_
      refine dp HT 2 rfl (pFb fd_234_3) ?_
      refine dr HT 3 rfl (rB1 ty_231) ?_
      refine dp HT 4 rfl (pFb fd_36_1) ?_
      refine dr HT 5 rfl (rB1 ty_3) ?_
      refine dp HT 6 rfl pM ?_
      refine dp HT 7 rfl pNv ?_
      refine dp HT 8 rfl (pFb fd_234_3) ?_
      refine dr HT 9 rfl (rB1 ty_231) ?_
      refine dp HT 10 rfl (pFb fd_36_1) ?_
      refine dr HT 11 rfl (rB1 ty_3) ?_
      refine dr HT 12 rfl (rMG mo_231 ze_37 (0 : Int) .refl) ?_
      refine dGo ?_
      refine e1 HT 13 rfl ?_
      refine cv rfl rfl rfl (lents_refl _) (cost_Add (a := mAt mm a.t) (b := 1) (by omega) (by omega) (by omega) (by omega)) ?_
      refine eLast ?_
      refine f1 HT 14 rfl ?_
      refine oMP (c := u64A) (v := addS (mAt mm a.t) 1) rfl rfl rfl rfl mo_231 ?_
      refine fE HT ?_
      clear HT
      refine aRet ?_
      have e1 : a.f = r := by assumption
      refine ⟨_, [.box sb [.int r, .v (.map (some ab)), .v (.map (some vb)), .v (.map (some mb))], .map ab (kvM u64A at_), .map vb (kvM slE (mPut m a.t ⟨g27, k27, (slAt m a.t).l ++ [a.t]⟩)), .map mb (kvM u64A (mPut mm a.t (addS (mAt mm a.t) 1))), .fam 3 1 (famL intA (mPut m a.t ⟨g27, k27, (slAt m a.t).l ++ [a.t]⟩))], _, rfl, (.cons (by repeat constructor) (.cons (by repeat constructor) (.cons (by repeat constructor) (.cons (by repeat constructor) (.cons (by repeat constructor) .nil))))), (mPut m a.t ⟨g27, k27, (slAt m a.t).l ++ [a.t]⟩), (mPut mm a.t (addS (mAt mm a.t) 1)), rfl, rfl, fun k => ?_, fun k => ?_⟩
      · rw [slAt_put]
        by_cases e : k = a.t
        · rw [if_pos e, if_pos e, if_pos e1, e]
        · rw [if_neg e, if_neg e]
      · rw [mAt_put]
        by_cases e : k = a.t
        · rw [if_pos e, if_pos e, if_pos e1, e]
        · rw [if_neg e, if_neg e]
  · skip
    refine aSkip ?_
    refine aSeq ?_
    refine aWeak (weak_famAt a.t) ?_
    refine aWeak (weak_famAt a.f) ?_
    rw [slAt_del hne]
    refine aDrawS (h1 := [.box b3 _, .box sb _, .map vb _]) ec_join_r4_t ec_join_r4_b [21] 22 #[false, false, false, false, false, false, false, false, false, false, false, false, false, false, false, false, false, false, false, false, false, false] (by kernel_rfl) rfl rfl (.cons (by repeat constructor) (.cons (by repeat constructor) (.cons (by repeat constructor) .nil))) (fun HT => ?_)
    refine ep HT 0 rfl pM ?_
    refine ep HT 1 rfl pNv ?_
    refine ep HT 2 rfl (pFb fd_234_2) ?_
    refine er HT 3 rfl (rB1 ty_232) ?_
    refine ep HT 4 rfl (pFb fd_36_1) ?_
    refine er HT 5 rfl (rB1 ty_3) ?_
    refine ep HT 6 rfl pM ?_
    refine ep HT 7 rfl pNv ?_
    refine ep HT 8 rfl (pFb fd_234_2) ?_
    refine er HT 9 rfl (rB1 ty_232) ?_
    refine ep HT 10 rfl (pFb fd_36_1) ?_
    refine er HT 11 rfl (rB1 ty_3) ?_
    refine er HT 12 rfl (rMG mo_232 ze_25 (sl0 : SlE Int) .refl) ?_
    refine ep HT 13 rfl pM ?_
    refine ep HT 14 rfl pNv ?_
    refine ep HT 15 rfl (pFb fd_234_2) ?_
    refine er HT 16 rfl (rB1 ty_232) ?_
    refine ep HT 17 rfl (pFb fd_36_0) ?_
    refine er HT 18 rfl (rB1 ty_3) ?_
    refine er HT 19 rfl (rMG mo_232 ze_25 (sl0 : SlE Int) .refl) ?_
    refine eOneS (i := 20) #[true, true, true, true, true, true, true, true, true, true, true, true, true, true, true, true, true, true, true, true, true, false] rfl (HT.one (by kernel_rfl)) (by decide) ?_
    · skip
      refine stA (hx := [.sl (slAt m a.t).g _ _ _ _, .sl (slAt m a.f).g _ _ _ _]) (wantN rfl) (fun t ht => by cases ht <;> decide) (.cons (by repeat constructor) (.cons (by repeat constructor) .nil)) (by repeat constructor) ?_
      refine (oAppT8 (out := (slAt m a.t).l) (xs := (slAt m a.f).l) rfl rfl (by repeat constructor) (srcOwn rfl (by repeat constructor) (by rw [List.length_map]; rfl)) el_25 sl_25 (fun g62 k62 => ?_))
      refine undel (d := 62) rfl ?_
      dsimp only [List.cons_append, List.nil_append]
      refine eLast ?_
      refine f1 HT 21 rfl ?_
      refine oMP (c := slE) (v := (⟨g62, k62, (slAt m a.t).l ++ (slAt m a.f).l⟩ : SlE Int)) rfl rfl rfl rfl mo_232 ?_
      refine fE HT ?_
      clear HT
      refine aWeak (weak_famBackE a.f (slAt_del hne).symm) ?_
      refine aWeak (weak_famSet a.t) ?_
      refine aDrawT ec_join_r5_t ec_join_r5_b [21] 22 #[false, false, false, false, false, false, false, false, false, false, false, false, false, false, false, false, false, false, false, false, false, false] (by kernel_rfl) rfl rfl (fun HT => ?_)
      refine dp HT 0 rfl pM ?_
      refine dp HT 1 rfl pNv ?_
      refine dp HT 2 rfl (pFb fd_234_3) ?_
      refine dr HT 3 rfl (rB1 ty_231) ?_
      refine dp HT 4 rfl (pFb fd_36_1) ?_
      refine dr HT 5 rfl (rB1 ty_3) ?_
      refine dp HT 6 rfl pM ?_
      refine dp HT 7 rfl pNv ?_
      refine dp HT 8 rfl (pFb fd_234_3) ?_
      refine dr HT 9 rfl (rB1 ty_231) ?_
      refine dp HT 10 rfl (pFb fd_36_1) ?_
      refine dr HT 11 rfl (rB1 ty_3) ?_
      refine dr HT 12 rfl (rMG mo_231 ze_37 (0 : Int) .refl) ?_
      refine dp HT 13 rfl pM ?_
      refine dp HT 14 rfl pNv ?_
      refine dp HT 15 rfl (pFb fd_234_3) ?_
      refine dr HT 16 rfl (rB1 ty_231) ?_
      refine dp HT 17 rfl (pFb fd_36_0) ?_
      refine dr HT 18 rfl (rB1 ty_3) ?_
      refine dr HT 19 rfl (rMG mo_231 ze_37 (0 : Int) .refl) ?_
      refine dGo ?_
      refine e1 HT 20 rfl ?_
      refine cv rfl rfl rfl (lents_refl _) (cost_Add (a := mAt mm a.t) (b := mAt mm a.f) (by omega) (by omega) (by omega) (by omega)) ?_
      refine eLast ?_
      refine f1 HT 21 rfl ?_
      refine oMP (c := u64A) (v := addS (mAt mm a.t) (mAt mm a.f)) rfl rfl rfl rfl mo_231 ?_
      refine fE HT ?_
      clear HT
      have e1 : ¬ a.f = r := by assumption
      refine ⟨_, [.box sb [.int r, .v (.map (some ab)), .v (.map (some vb)), .v (.map (some mb))], .map ab (kvM u64A at_), .map vb (kvM slE (mPut m a.t ⟨g62, k62, (slAt m a.t).l ++ (slAt m a.f).l⟩)), .map mb (kvM u64A (mPut mm a.t (addS (mAt mm a.t) (mAt mm a.f)))), .fam 3 1 (famL intA (mPut m a.t ⟨g62, k62, (slAt m a.t).l ++ (slAt m a.f).l⟩))], _, rfl, (.cons (by repeat constructor) (.cons (by repeat constructor) (.cons (by repeat constructor) (.cons (by repeat constructor) (.cons (by repeat constructor) .nil))))), (mPut m a.t ⟨g62, k62, (slAt m a.t).l ++ (slAt m a.f).l⟩), (mPut mm a.t (addS (mAt mm a.t) (mAt mm a.f))), rfl, rfl, fun k => ?_, fun k => ?_⟩
      · rw [slAt_put]
        by_cases e : k = a.t
        · rw [if_pos e, if_pos e, if_neg e1, e]
        · rw [if_neg e, if_neg e]
      · rw [mAt_put]
        by_cases e : k = a.t
        · rw [if_pos e, if_pos e, if_neg e1, e]
        · rw [if_neg e, if_neg e]
end A
end Go.Proofs.Ytmcannmjielalaa
set_option linter.unusedVariables false
set_option linter.unusedSimpArgs false
namespace Go.Proofs.Ytmcannmjielalaa
namespace A
theorem el_117 : elemOf Try.prog 117 = some (121, 4, 48) := by kernel_rfl
theorem fd_121_2 : fieldOf Try.prog 121 2 = some (2, 1, false) := by kernel_rfl
theorem sl_117 : isSl Try.prog 117 = true := by kernel_rfl
theorem st_121 : structPlaces Try.prog 121 = some [(0, 1), (1, 1), (2, 1), (3, 1)] := by kernel_rfl
theorem st_234 : structPlaces Try.prog 234 = some [(0, 1), (1, 1), (2, 1), (3, 1)] := by kernel_rfl
theorem ty_121 : tyOf Try.prog 121 = some (4, true) := by kernel_rfl
theorem us_117 : Try.prog.underlying 117 = some (.slice 121) := by kernel_rfl
theorem ze_121 : zeroOf Try.prog 121 = some (.agg #[.int .i64 0, .int .u64 0, .slice none 0 0, .int .u64 0]) := by kernel_rfl
theorem ze_234 : zeroOf Try.prog 234 = some (.agg #[.int .i64 0, .map none, .map none, .map none]) := by kernel_rfl
def evP (l : List Arc) (r v : Int) (k : Nat) : List Int × Int := ((l.take k).filter fun a => a.t == v && tightB l r a).foldl (stE r v (evV l r)) ([], 0)
theorem evP_yes {l : List Arc} {r v : Int} {k : Nat} {a : Arc} (ha : l[k]? = some a) (h : (a.t == v && tightB l r a) = true) : evP l r v (k + 1) = stE r v (evV l r) (evP l r v k) a := by
  unfold evP
  rw [take_step ha, List.filter_append, List.foldl_append, List.filter_cons, h]
  rfl
theorem evP_no {l : List Arc} {r v : Int} {k : Nat} {a : Arc} (ha : l[k]? = some a) (h : (a.t == v && tightB l r a) = false) : evP l r v (k + 1) = evP l r v k := by
  unfold evP
  rw [take_step ha, List.filter_append, List.foldl_append, List.filter_cons, h]
  rfl
theorem evP_all {l : List Arc} (hl : ∀ a ∈ l, AOk a) {r v : Int} (h : isF l r v = true) : evP l r v l.length = evV l r v := by
  rw [evV_eq hl h]
  unfold evP tg
  rw [List.take_length]
theorem evP_len {l : List Arc} (hl : ∀ a ∈ l, AOk a) {r v : Int} (h : isF l r v = true) (k : Nat) : (evP l r v k).1.length ≤ (evV l r v).1.length := by
  rw [evV_eq hl h]
  unfold evP tg
  have e : (l.filter fun a => a.t == v && tightB l r a) = ((l.take k).filter fun a => a.t == v && tightB l r a) ++ (l.drop k).filter fun a => a.t == v && tightB l r a := by rw [← List.filter_append, List.take_append_drop]
  rw [e, List.foldl_append, stE_len ((l.drop k).filter _)]
  omega
theorem evP_rng (l : List Arc) (r v : Int) (k : Nat) : 0 ≤ (evP l r v k).2 ∧ (evP l r v k).2 ≤ farI := stE_rng (evV_rng l r) _ _ (by decide) (by decide)
/-- What the maps hold: of nodes that were gone through, and of none else. -/
def ECI (l : List Arc) (r : Int) (us : List Int) (m : List (Int × SlE Int)) (mm : List (Int × Int)) : Prop := ∀ u, (slAt m u).l = (if u ∈ us then (evV l r u).1 else []) ∧ mAt mm u = if u ∈ us then (evV l r u).2 else 0
def ECK (l : List Arc) (r : Int) (us : List Int) (v : Int) (k : Nat) (m : List (Int × SlE Int)) (mm : List (Int × Int)) : Prop := ∀ u, (slAt m u).l = (if u = v then (evP l r v k).1 else if u ∈ us then (evV l r u).1 else []) ∧ mAt mm u = if u = v then (evP l r v k).2 else if u ∈ us then (evV l r u).2 else 0
theorem ECI.start {l : List Arc} {r v : Int} {us : List Int} {m : List (Int × SlE Int)} {mm : List (Int × Int)} (I : ECI l r us m mm) (hv : v ∉ us) : ECK l r us v 0 m mm := fun u => by
  have h := I u
  by_cases e : u = v
  · subst e
    rw [if_neg hv, if_neg hv] at h
    rw [if_pos rfl, if_pos rfl]
    exact h
  · rw [if_neg e, if_neg e]; exact h
theorem ECK.skip {l : List Arc} {r v : Int} {us : List Int} {k : Nat} {m : List (Int × SlE Int)} {mm : List (Int × Int)} {a : Arc} (K : ECK l r us v k m mm) (ha : l[k]? = some a) (h : (a.t == v && tightB l r a) = false) : ECK l r us v (k + 1) m mm := fun u => by
  rw [evP_no ha h]; exact K u
theorem ECK.join {l : List Arc} {r v : Int} {us : List Int} {k : Nat} {m m3 : List (Int × SlE Int)} {mm mm3 : List (Int × Int)} {a : Arc} (K : ECK l r us v k m mm) (ha : l[k]? = some a) (h : (a.t == v && tightB l r a) = true) (hp : a.f = r ∨ a.f ∈ us) (hne : a.f ≠ a.t)
    (h1 : ∀ k, (slAt m3 k).l = if k = a.t then (slAt m k).l ++ (if a.f = r then [a.t] else (slAt m a.f).l) else (slAt m k).l) (h2 : ∀ k, mAt mm3 k = if k = a.t then addS (mAt mm k) (if a.f = r then 1 else mAt mm a.f) else mAt mm k) : ECK l r us v (k + 1) m3 mm3 := fun u => by
  have ht : a.t = v := by rw [Bool.and_eq_true, beq_iff_eq] at h; exact h.1
  rw [evP_yes ha h, h1, h2]
  have hK := K u
  by_cases e : u = v
  · have e2 : u = a.t := e.trans ht.symm
    rw [if_pos e, if_pos e] at hK
    rw [if_pos e2, if_pos e2, if_pos e, if_pos e, hK.1, hK.2]
    unfold stE
    by_cases hr : a.f = r
    · rw [if_pos hr, if_pos hr, if_pos hr, if_pos hr, ht]; exact ⟨rfl, rfl⟩
    · have hf := K a.f
      have hfv : a.f ≠ v := fun e' => hne (e'.trans ht.symm)
      rw [if_neg hfv, if_neg hfv, if_pos (hp.resolve_left hr), if_pos (hp.resolve_left hr)] at hf
      rw [if_neg hr, if_neg hr, if_neg hr, if_neg hr, hf.1, hf.2]
      exact ⟨rfl, rfl⟩
  · have e2 : u ≠ a.t := fun e' => e (e'.trans ht)
    rw [if_neg e, if_neg e] at hK
    rw [if_neg e2, if_neg e2, if_neg e, if_neg e]
    exact hK
theorem ECK.done {l : List Arc} (hl : ∀ a ∈ l, AOk a) {r v : Int} {us : List Int} {m : List (Int × SlE Int)} {mm : List (Int × Int)} (K : ECK l r us v l.length m mm) (hv : isF l r v = true) : ECI l r (us ++ [v]) m mm := fun u => by
  have h := K u
  rw [evP_all hl hv] at h
  by_cases e : u = v
  · subst e
    rw [if_pos rfl, if_pos rfl] at h
    rw [if_pos (by simp), if_pos (by simp)]
    exact h
  · rw [if_neg e, if_neg e] at h
    by_cases hu : u ∈ us
    · rw [if_pos hu, if_pos hu] at h
      rw [if_pos (by simp [hu]), if_pos (by simp [hu])]
      exact h
    · rw [if_neg hu, if_neg hu] at h
      rw [if_neg (by simp [hu, e]), if_neg (by simp [hu, e])]
      exact h
theorem ECK.mm_rng {l : List Arc} {r v : Int} {us : List Int} {k : Nat} {m : List (Int × SlE Int)} {mm : List (Int × Int)} (K : ECK l r us v k m mm) (u : Int) : 0 ≤ mAt mm u ∧ mAt mm u ≤ 18446744073709551615 := by
  have h1 := evP_rng l r v k
  have h2 := evV_rng l r u
  unfold farI at h1 h2
  rw [(K u).2]
  split
  · exact h1
  · split
    · exact h2
    · omega
theorem near_of {l : List Arc} (hok : arcsB none l = true) {r : Int} {ts : List Rt} (hp : ts.Perm (rtsM l r)) (hs : ts.Pairwise fun x y => Go.Proofs.ltOf orderN y x = false) : Near l r (ts.map (·.nd)) := by
  have hl := arcs_ok hok
  have hm : ∀ x ∈ ts, x.nd ≠ r ∧ isF l r x.nd = true ∧ x = ⟨x.nd, viaM l r x.nd, dF l r x.nd⟩ := fun x hx => (rtsM_mem (hp.mem_iff.1 hx)).2
  refine ⟨?_, fun v => ?_, ?_⟩
  · refine ((hp.map (·.nd)).nodup_iff).2 ?_
    have e : (rtsM l r).map (·.nd) = rKeys l r := by
      unfold rtsM
      rw [if_pos hok]
      unfold routesM rKeys
      rw [List.map_map]
      exact List.map_id _
    rw [e, List.nodup_iff_pairwise_ne]
    exact (rKeys_sorted l r).imp (fun h => by omega)
  · rw [List.mem_map]
    constructor
    · rintro ⟨x, hx, rfl⟩
      exact ⟨(hm x hx).2.1, (hm x hx).1⟩
    · rintro ⟨h1, h2⟩
      exact ⟨_, hp.mem_iff.2 (rtsM_of hok h2 h1), rfl⟩
  · rw [List.pairwise_map]
    refine (List.Pairwise.and_mem.1 hs).imp fun {x y} ⟨hx, hy, h⟩ => ?_
    have h1 := congrArg Rt.c (hm x hx).2.2
    have h2 := congrArg Rt.c (hm y hy).2.2
    have h3 : ¬ ltN y x := fun e => by
      rw [← orderN_lt] at e
      unfold Go.Proofs.ltOf at h
      rw [decide_eq_true e] at h
      cases h
    unfold ltN at h3
    simp only at h1 h2
    omega
def AtI (l : List Arc) (r : Int) (rs : List Rt) (at_ : List (Int × Int)) : Prop := ∀ v, mGet at_ v = if v = r then some 0 else if rs.any (fun x => x.nd == v) then some (dF l r v) else none
theorem AtI.step {l : List Arc} {r : Int} {rs : List Rt} {at_ : List (Int × Int)} {i : Nat} {x : Rt} (I : AtI l r (rs.take i) at_) (hx : rs[i]? = some x) (h1 : x.nd ≠ r) (h2 : x = ⟨x.nd, viaM l r x.nd, dF l r x.nd⟩) : AtI l r (rs.take (i + 1)) (mPut at_ x.nd x.c) := fun v => by
  have hc := congrArg Rt.c h2
  simp only at hc
  rw [mGet_put, I v, take_step hx, List.any_append]
  by_cases e : v = x.nd
  · subst e
    rw [if_pos rfl, if_neg h1, hc]
    simp
  · rw [if_neg e]
    have : ([x].any fun x => x.nd == v) = false := by simp; exact fun h => e h.symm
    rw [this, Bool.or_false]
theorem AtI.full {l : List Arc} (hok : arcsB none l = true) {r : Int} {at_ : List (Int × Int)} (I : AtI l r (rtsM l r) at_) (v : Int) : mGet at_ v = if v = r then some 0 else if isF l r v then some (dF l r v) else none := by
  rw [I v]
  by_cases e : v = r
  · rw [if_pos e, if_pos e]
  · rw [if_neg e, if_neg e]
    have : (rtsM l r).any (fun x => x.nd == v) = isF l r v := by
      rw [Bool.eq_iff_iff, List.any_eq_true]
      constructor
      · rintro ⟨x, hx, h⟩
        rw [beq_iff_eq] at h
        rw [← h]
        exact (rtsM_mem hx).2.2.1
      · intro h
        exact ⟨_, rtsM_of hok e h, by simp⟩
    rw [this]
theorem AtI.on {l : List Arc} (hok : arcsB none l = true) {r : Int} (hr : 1 ≤ r ∧ r ≤ 64) {at_ : List (Int × Int)} (I : AtI l r (rtsM l r) at_) (a : Arc) : onB r at_ a = tightB l r a := by
  have hroot := dF_root (arcs_ok hok) hr.1 hr.2
  have key : ∀ v, (mGet at_ v).isSome = isF l r v ∧ (isF l r v = true → (mGet at_ v).getD 0 = dF l r v) := fun v => by
    rw [I.full hok v]
    by_cases e : v = r
    · subst e
      rw [if_pos rfl, hroot.1, hroot.2]
      exact ⟨rfl, fun _ => rfl⟩
    · rw [if_neg e]
      cases h : isF l r v with
      | true => exact ⟨rfl, fun _ => rfl⟩
      | false => exact ⟨rfl, fun h => by cases h⟩
  unfold onB tightB
  rw [(key a.f).1, (key a.t).1]
  cases h1 : isF l r a.f with
  | false => rfl
  | true =>
    cases h2 : isF l r a.t with
    | false => rfl
    | true => rw [(key a.f).2 h1, (key a.t).2 h2]
theorem AtI.rng {l : List Arc} (hll : l.length ≤ 1000000) {r : Int} {rs : List Rt} {at_ : List (Int × Int)} (hok : arcsB none l = true) (I : AtI l r rs at_) (v : Int) : 0 ≤ (mGet at_ v).getD 0 ∧ (mGet at_ v).getD 0 ≤ 1152921504606846976 := by
  have h := dF_range (arcs_ok hok) hll r v
  rw [I v]
  split
  · simp
  · split
    · simp only [Option.getD_some]
      omega
    · simp
theorem compact_int2 {g : Option Nat} {c n : Nat} {l : List Int} (hn : n = l.length) (hl : l.length ≤ 17592186044416) : Triple Try.prog 194 [.v (slV g n c)] [.sl g c 3 1 (l.map intA)] (Own 3 1 ((cptL l).map intA) []) := by
  subst hn
  exact compact_int g c l hl
/- ecmp.All -/
def ec_All_r6_T : Bool × List (List Nat × List Nat) := (true, [([], []), ([0], [0]), ([1], [1]), ([2], [2]), ([], []), ([4], [4]), ([], []), ([6], [6]), ([3, 5, 7, 0, 1, 2, 3, 4, 5, 6, 7], [3, 5, 7])])
def ec_All_r6_B : List Nat := [0, 1, 3, 7, 0, 16, 0, 64, 255]
theorem ec_All_r6_t : Go.Proofs.YtmcannmjielalaaW.PrintLast.rtab .any (Go.Proofs.YtmcannmjielalaaW.PrintLast.opsOf Try.f102 6) = ec_All_r6_T := by kernel_rfl
theorem ec_All_r6_b : Go.Proofs.YtmcannmjielalaaW.PrintLast.waitsOk ec_All_r6_T.2 ec_All_r6_B = true := by kernel_rfl
def ec_All_r24_T : Bool × List (List Nat × List Nat) := (true, [([], []), ([0], [0]), ([1], [1]), ([2], [2]), ([], []), ([4], [4]), ([3, 5], [3, 5]), ([6, 0, 1, 2, 3, 4, 5, 6], [6])])
def ec_All_r24_B : List Nat := [0, 1, 3, 7, 0, 16, 63, 127]
theorem ec_All_r24_t : Go.Proofs.YtmcannmjielalaaW.PrintLast.rtab .any (Go.Proofs.YtmcannmjielalaaW.PrintLast.opsOf Try.f102 24) = ec_All_r24_T := by kernel_rfl
theorem ec_All_r24_b : Go.Proofs.YtmcannmjielalaaW.PrintLast.waitsOk ec_All_r24_T.2 ec_All_r24_B = true := by kernel_rfl
def ec_All_r26_T : Bool × List (List Nat × List Nat) := (true, [([], []), ([], []), ([1], [1]), ([], []), ([3], [3]), ([], []), ([5], [5]), ([], []), ([7], [7]), ([8], [8]), ([9], [9]), ([], []), ([11], [11]), ([10, 12], [10, 12]), ([2, 4, 6, 13], [2, 4, 6, 13]), ([14], [14]), ([0, 15, 6], [0, 15]), ([16, 16, 0, 1, 2, 3, 4, 5, 6, 7, 8, 9, 10, 11, 12, 13, 14, 15, 16], [0, 16])])
def ec_All_r26_B : List Nat := [0, 0, 2, 0, 8, 0, 32, 0, 128, 384, 896, 0, 2048, 8064, 16382, 32766, 65535, 131071]
theorem ec_All_r26_t : Go.Proofs.YtmcannmjielalaaW.PrintLast.rtab .any (Go.Proofs.YtmcannmjielalaaW.PrintLast.opsOf Try.f102 26) = ec_All_r26_T := by kernel_rfl
theorem ec_All_r26_b : Go.Proofs.YtmcannmjielalaaW.PrintLast.waitsOk ec_All_r26_T.2 ec_All_r26_B = true := by kernel_rfl
set_option maxRecDepth 100000 in
set_option maxHeartbeats 8000000 in
theorem ec_All {l : List Arc} {r : Int} (hll : l.length ≤ 100) : Triple Try.prog 102 [.sl 3 (l.map arcC), .int r] [] (Own 121 4 ((waysM l r).map wyC) []) := by
  have hrl := rtsM_len l r
  refine triple_of Try.func102 rfl (by kernel_rfl) rfl (by simp) ?_
  refine aSeq ?_
  refine aReg ?_
  refine sp pMa ?_
  refine oNil ?_
  refine aSeq ?_
  refine aReg ?_
  refine sp pM ?_
  refine sp pM ?_
  refine sq ?_
  refine ci rfl rfl rfl (spf_Routes_s (l := l) (r := r) (by omega)) ?_
  refine sp pMa ?_
  refine oNil ?_
  refine aSeq ?_
  refine aReg ?_
  refine sp pM ?_
  refine sq ?_
  refine qMM u64A rfl (fun b22 => ?_)
  refine sp pM ?_
  refine sa ?_
  first | refine oMI rfl rfl rfl rfl mo_231 ?_ | refine oMapIns rfl rfl rfl rfl rfl (by repeat constructor) mo_231 ?_
  refine sp pM ?_
  refine sq ?_
  refine qMM ((slE (α := Int))) rfl (fun b25 => ?_)
  refine sq ?_
  refine qMM u64A rfl (fun b26 => ?_)
  refine sp (pBuild rfl st_234 ze_234 rfl rfl rfl rfl) ?_
  refine sq ?_
  refine qBox rfl rfl (by decide) rfl rfl (fun b28 => ?_)
  refine sp pMa ?_
  refine oNil ?_
  refine aSeq ?_
  refine aSeq ?_
  refine aWeak (weak_famNew 3 1) ?_
  refine aReg ?_
  refine sp pM ?_
  refine sp (by first | exact pLm sl_41 | exact pLs sl_41 | exact pLv sl_41) ?_
  refine sp pM ?_
  refine oNil ?_
  refine aBlock ?_
  refine loopF (α := Nat × List (Int × Int)) (kept := [(0, _), (5, _), (6, _), (29, _), (30, _)]) (fun (i, at_) => i ≤ (rtsM l r).length ∧ AtI l r ((rtsM l r).take i) at_) (fun (i, at_) => [(31, .int i)]) (fun (i, at_) => [.box b28 [.int r, .v (.map (some b22)), .v (.map (some b25)), .v (.map (some b26))], .map b22 (kvM u64A at_), .map b25 (kvM slE ([] : List (Int × SlE Int))), .map b26 (kvM u64A ([] : List (Int × Int))), .fam 3 1 (famL intA ([] : List (Int × SlE Int)))]) (fun (i, at_) => (rtsM l r).length - i) (0, mPut [] r 0) ?_ ⟨gInt rfl (by first | rfl | omega | simp), rfl, rfl, rfl, rfl, rfl, trivial⟩ (by repeat constructor) ?_
  · skip
    refine ⟨by omega, fun v => ?_⟩
    rw [mGet_put]
    by_cases e : v = r
    · rw [if_pos e, if_pos e]
    · rw [if_neg e, if_neg e]; rfl
  · rintro ⟨i, at_⟩ ⟨hi, hA⟩
    refine aSeq ?_
    refine aReg ?_
    refine sp pB ?_
    refine oNil ?_
    refine aSeq ?_
    refine aCondDec rfl (fun c32 => ?_) (fun c32 => ?_)
    · skip
      refine aSkip ?_
      refine aSeq ?_
      refine aBlock ?_
      refine aSeq ?_
      obtain ⟨x, hx⟩ : ∃ z, (rtsM l r)[i]? = some z := ⟨_, List.getElem?_eq_getElem (by omega)⟩
      obtain ⟨hok, hx1, hx2, hx3⟩ := rtsM_mem (List.mem_of_getElem? hx)
      refine aReg ?_
      first | refine sp (pIx es_41) ?_ | (refine obtSN 29 31 rfl rfl (by omega) (fun x33 hx33 => ?_); refine sp (pIs es_41 hx33) ?_) | (refine obtS 29 31 rfl rfl (by omega) (by omega) (fun x33 hx33 => ?_); refine sp (pIs es_41 hx33) ?_) | refine sp (pIo es_41) ?_
      refine sr (by first | exact rSW ty_49 rfl | exact rSA ty_49 | exact rBWa ty_49 | exact rBW ty_49 | exact rBA ty_49 | exact rArA ty_49 (fun _ => rfl)) ?_
      refine sq ?_
      refine qAlloc rfl rfl (by decide) ze_49 rfl (fun b8 => ?_)
      refine sa ?_
      refine oStW rfl rfl rfl rfl (by repeat constructor) ty_49 ?_
      refine oNil ?_
      refine aDrawT ec_All_r6_t ec_All_r6_b [8] 9 #[false, false, false, false, false, false, false, false, false] (by kernel_rfl) rfl rfl (fun HT => ?_)
      refine dp HT 0 rfl pM ?_
      refine dp HT 1 rfl pNv ?_
      refine dp HT 2 rfl (pFb fd_234_1) ?_
      refine dr HT 3 rfl (rB1 ty_231) ?_
      refine dp HT 4 rfl (pFb fd_49_0) ?_
      refine dr HT 5 rfl (rB1 ty_3) ?_
      refine dp HT 6 rfl (pFb fd_49_2) ?_
      refine dr HT 7 rfl (rB1 ty_37) ?_
      refine dGo ?_
      refine eLast ?_
      refine f1 HT 8 rfl ?_
      first | refine oMP rfl rfl rfl rfl mo_231 ?_ | refine oMapSet rfl rfl rfl rfl rfl (by repeat constructor) mo_231 ?_
      refine fE HT ?_
      clear HT
      refine aReg ?_
      refine sp pAd ?_
      refine sp pM ?_
      refine oNil ?_
      refine ⟨(i + 1, _), ?_, by (try dsimp only); omega, ⟨gInt rfl (by first | rfl | omega | simp), rfl, rfl, rfl, rfl, rfl, trivial⟩, _, (by repeat constructor)⟩
      exact ⟨by omega, hA.step hx hx1 hx3⟩
    · skip
      refine aExit rfl ?_
      refine aSeq ?_
      rw [take_all (by omega)] at hA
      refine aReg ?_
      refine sp pM ?_
      refine sa ?_
      first | refine coM rfl rfl rfl (clone_Rt (l := rtsM l r) (by omega)) (fun g45 k45 => ?_) | refine co rfl rfl rfl (clone_Rt (l := rtsM l r) (by omega)) (fun g45 k45 => ?_)
      refine sp pMa ?_
      refine oNil ?_
      refine aSeq ?_
      refine aReg ?_
      refine sp pM ?_
      refine sa ?_
      refine ca rfl rfl rfl (sort_rt g45 k45 (rtsM l r) (by omega)) ?_
      rintro _ _ ⟨ts, hperm, hsort, rfl, rfl⟩
      refine oNil ?_
      refine aSeq ?_
      refine aSeq ?_
      have htl := hperm.length_eq
      rw [← htl]
      refine aWeak (weak_settle (k := 9) rfl (by repeat constructor) (by first | rfl | (simp; done) | (simp; omega) | (simp_all; done))) ?_
      refine aReg ?_
      refine sp pM ?_
      refine sp (by first | exact pLm sl_41 | exact pLs sl_41) ?_
      refine sp pM ?_
      refine oNil ?_
      refine aBlock ?_
      refine loopF (α := Nat × List (Int × SlE Int) × List (Int × Int)) (kept := [(0, _), (5, _), (6, _), (48, _), (49, _)]) (fun (j, m, mm) => j ≤ ts.length ∧ ECI l r ((ts.take j).map (·.nd)) m mm) (fun (j, m, mm) => [(50, .int j)]) (fun (j, m, mm) => [.box b28 [.int r, .v (.map (some b22)), .v (.map (some b25)), .v (.map (some b26))], .map b22 (kvM u64A at_), .map b25 (kvM slE m), .map b26 (kvM u64A mm), .fam 3 1 (famL intA m)]) (fun (j, m, mm) => ts.length - j) (0, ([] : List (Int × SlE Int)), ([] : List (Int × Int))) ?_ ⟨gInt rfl (by first | rfl | omega | simp), rfl, rfl, rfl, rfl, rfl, trivial⟩ (by repeat constructor) ?_
      · skip
        exact ⟨by omega, fun u => ⟨rfl, rfl⟩⟩
      · rintro ⟨j, m, mm⟩ ⟨hj, hI⟩
        refine aSeq ?_
        refine aReg ?_
        refine sp pB ?_
        refine oNil ?_
        refine aSeq ?_
        refine aCondDec rfl (fun c51 => ?_) (fun c51 => ?_)
        · skip
          refine aSkip ?_
          refine aSeq ?_
          refine aBlock ?_
          refine aSeq ?_
          obtain ⟨x, hx⟩ : ∃ z, ts[j]? = some z := ⟨_, List.getElem?_eq_getElem (by omega)⟩
          have hxm := hperm.mem_iff.1 (List.mem_of_getElem? hx)
          obtain ⟨hok, hx1, hx2, hx3⟩ := rtsM_mem hxm
          have hl := arcs_ok hok
          have hN := near_of hok hperm hsort
          have hxu : (ts.map (·.nd))[j]? = some x.nd := by rw [List.getElem?_map, hx]; rfl
          have hr := isF_range hl hx2
          have hvl := near_len hok hll hN (List.mem_of_getElem? hxu)
          have hxn : x.nd ∉ ((ts.take j).map (·.nd)) := fun hm => by
            obtain ⟨q, hq⟩ := List.mem_iff_getElem?.1 hm
            rw [List.map_take, List.getElem?_take] at hq
            split at hq
            · have hnd := List.nodup_iff_pairwise_ne.1 hN.nd
              obtain ⟨g1, e1⟩ := List.getElem?_eq_some_iff.1 hq
              obtain ⟨g2, e2⟩ := List.getElem?_eq_some_iff.1 hxu
              exact List.pairwise_iff_getElem.1 hnd q j g1 g2 (by omega) (e1.trans e2.symm)
            · cases hq
          refine aReg ?_
          first | refine sp (pIx es_41) ?_ | (refine obtSN 48 50 rfl rfl (by omega) (fun x52 hx52 => ?_); refine sp (pIs es_41 hx52) ?_) | (refine obtS 48 50 rfl rfl (by omega) (by omega) (fun x52 hx52 => ?_); refine sp (pIs es_41 hx52) ?_) | refine sp (pIo es_41) ?_
          refine sr (by first | exact rSW ty_49 rfl | exact rSA ty_49) ?_
          refine sq ?_
          refine qAlloc rfl rfl (by decide) ze_49 rfl (fun b11 => ?_)
          refine sa ?_
          refine oStW rfl rfl rfl rfl (by repeat constructor) ty_49 ?_
          refine oNil ?_
          refine aSeq ?_
          refine aReg ?_
          refine sp pM ?_
          refine sp (by first | exact pLm sl_22 | exact pLs sl_22) ?_
          refine sp pM ?_
          refine oNil ?_
          refine aBlock ?_
          refine loopF (α := Nat × List (Int × SlE Int) × List (Int × Int)) (kept := [(0, _), (5, _), (6, _), (11, _), (48, _), (49, _), (50, _), (54, _), (55, _)]) (fun (k, m2, mm2) => k ≤ l.length ∧ ECK l r ((ts.take j).map (·.nd)) x.nd k m2 mm2) (fun (k, m2, mm2) => [(56, .int k)]) (fun (k, m2, mm2) => [.box b28 [.int r, .v (.map (some b22)), .v (.map (some b25)), .v (.map (some b26))], .map b22 (kvM u64A at_), .map b25 (kvM slE m2), .map b26 (kvM u64A mm2), .fam 3 1 (famL intA m2)]) (fun (k, m2, mm2) => l.length - k) (0, m, mm) ?_ ⟨gInt rfl (by first | rfl | omega | simp), rfl, rfl, rfl, rfl, rfl, rfl, rfl, rfl, rfl, trivial⟩ (by repeat constructor) ?_
          · skip
            exact ⟨by omega, hI.start hxn⟩
          · rintro ⟨k, m2, mm2⟩ ⟨hk, hK⟩
            refine aSeq ?_
            refine aReg ?_
            refine sp pB ?_
            refine oNil ?_
            refine aSeq ?_
            refine aCondDec rfl (fun c57 => ?_) (fun c57 => ?_)
            · skip
              refine aSkip ?_
              refine aSeq ?_
              refine aBlock ?_
              refine aSeq ?_
              obtain ⟨a, ha⟩ : ∃ z, l[k]? = some z := ⟨_, List.getElem?_eq_getElem (by omega)⟩
              have hak := hl a (List.mem_of_getElem? ha)
              unfold AOk at hak
              have hak : a.f ≠ a.t ∧ 1 ≤ a.c ∧ a.c ≤ 1073741824 := by omega
              have hon := hA.on hok ⟨hr.1, hr.2.1⟩ a
              refine aReg ?_
              first | refine sp (pIx es_22) ?_ | (refine obtSN 54 56 rfl rfl (by omega) (fun x58 hx58 => ?_); refine sp (pIs es_22 hx58) ?_) | (refine obtS 54 56 rfl rfl (by omega) (by omega) (fun x58 hx58 => ?_); refine sp (pIs es_22 hx58) ?_) | refine sp (pIo es_22) ?_
              refine sr (by first | exact rSW ty_36 rfl | exact rSA ty_36) ?_
              refine sq ?_
              refine qAlloc rfl rfl (by decide) ze_36 rfl (fun b13 => ?_)
              refine sa ?_
              refine oStW rfl rfl rfl rfl (by repeat constructor) ty_36 ?_
              refine oNil ?_
              refine aSeq ?_
              refine aReg ?_
              refine sp (pFb fd_36_1) ?_
              refine sr (rB1 ty_3) ?_
              refine sp (pFb fd_49_0) ?_
              refine sr (rB1 ty_3) ?_
              refine sp pB ?_
              refine sp pM ?_
              refine oSplitEq 65 rfl (fun c65 => ?_) (fun c65 => ?_)
              · skip
                refine gp pM ?_
                refine gr (by first | exact rBWa ty_36 | exact rBW ty_36 | exact rBA ty_36) ?_
                refine ga ?_
                refine cai rfl rfl rfl (ec_on b28 b22 b25 b26 at_ m2 mm2 a (hA.rng (by omega) hok) (by omega)) ?_
                refine sp pK ?_
                refine oNil ?_
                refine aCond rfl (fun c69 => ?_) (fun c69 => ?_)
                · skip
                  have hti : (a.t == x.nd && tightB l r a) = true := by
                    rw [← hon, Bool.and_eq_true, beq_iff_eq]
                    exact ⟨by first | assumption | simp_all, by first | assumption | simp_all⟩
                  have htv : a.t = x.nd := by rw [Bool.and_eq_true, beq_iff_eq] at hti; exact hti.1
                  have htg : a ∈ tg l r x.nd := List.mem_filter.2 ⟨List.mem_of_getElem? ha, hti⟩
                  have hpd : a.f = r ∨ a.f ∈ ((ts.take j).map (·.nd)) := by rw [List.map_take]; exact hN.pred hl hxu htg
                  have hlen : (slAt m2 a.t).l.length + (slAt m2 a.f).l.length + 1 ≤ 17592186044416 := by
                    have h1 := evP_len hl hx2 k
                    have h2 := evP_len hl hx2 (k + 1)
                    have e1 := (hK a.t).1
                    have e2 := (hK a.f).1
                    rw [if_pos htv] at e1
                    rw [if_neg (fun e => hak.1 (e.trans htv.symm))] at e2
                    rw [evP_yes ha hti] at h2
                    unfold stE at h2
                    rw [List.length_append] at h2
                    rw [e1, e2]
                    by_cases hr : a.f = r
                    · have hru : a.f ∉ ((ts.take j).map (·.nd)) := fun hm => by
                        rw [hr] at hm
                        obtain ⟨z, hz, hz2⟩ := List.mem_map.1 hm
                        exact (rtsM_mem (hperm.mem_iff.1 (List.mem_of_mem_take hz))).2.1 hz2
                      rw [if_neg hru]
                      simp
                      omega
                    · rw [if_neg hr] at h2
                      rw [if_pos (hpd.resolve_left hr)]
                      omega
                  refine aReg ?_
                  refine sp pM ?_
                  refine sr (by first | exact rBWa ty_36 | exact rBW ty_36 | exact rBA ty_36) ?_
                  refine sa ?_
                  refine ca rfl rfl rfl (ec_join b28 b22 b25 b26 at_ m2 mm2 a hak.1 hlen (fun v => hK.mm_rng v)) ?_
                  rintro _ _ ⟨m3, mm3, rfl, rfl, hm3, hmm3⟩
                  refine oNil ?_
                  refine aReg ?_
                  refine sp pAd ?_
                  refine sp pM ?_
                  refine oNil ?_
                  refine ⟨(k + 1, _, _), ?_, by (try dsimp only); omega, ⟨gInt rfl (by first | rfl | omega | simp), rfl, rfl, rfl, rfl, rfl, rfl, rfl, rfl, rfl, trivial⟩, _, (by repeat constructor)⟩
                  first
                    | exact ⟨by omega, hK.join ha hti hpd hak.1 hm3 hmm3⟩
                    | (refine ⟨by omega, hK.skip ha ?_⟩
                       rw [← hon]
                       first
                         | (rw [show onB r at_ a = false by assumption, Bool.and_false]; done)
                         | (rw [show (a.t == x.nd) = false by rw [beq_eq_false_iff_ne]; assumption, Bool.false_and]; done))
                · skip
                  refine aSkip ?_
                  refine aReg ?_
                  refine sp pAd ?_
                  refine sp pM ?_
                  refine oNil ?_
                  refine ⟨(k + 1, _, _), ?_, by (try dsimp only); omega, ⟨gInt rfl (by first | rfl | omega | simp), rfl, rfl, rfl, rfl, rfl, rfl, rfl, rfl, rfl, trivial⟩, _, (by repeat constructor)⟩
                  first
                    | exact ⟨by omega, hK.join ha hti hpd hak.1 hm3 hmm3⟩
                    | (refine ⟨by omega, hK.skip ha ?_⟩
                       rw [← hon]
                       first
                         | (rw [show onB r at_ a = false by assumption, Bool.and_false]; done)
                         | (rw [show (a.t == x.nd) = false by rw [beq_eq_false_iff_ne]; assumption, Bool.false_and]; done))
              · skip
                refine gf ?_
                refine gf ?_
                refine gf ?_
                refine sp pK ?_
                refine oNil ?_
                refine aCondF rfl ?_
                refine aSkip ?_
                refine aReg ?_
                refine sp pAd ?_
                refine sp pM ?_
                refine oNil ?_
                refine ⟨(k + 1, _, _), ?_, by (try dsimp only); omega, ⟨gInt rfl (by first | rfl | omega | simp), rfl, rfl, rfl, rfl, rfl, rfl, rfl, rfl, rfl, trivial⟩, _, (by repeat constructor)⟩
                first
                  | exact ⟨by omega, hK.join ha hti hpd hak.1 hm3 hmm3⟩
                  | (refine ⟨by omega, hK.skip ha ?_⟩
                     rw [← hon]
                     first
                       | (rw [show onB r at_ a = false by assumption, Bool.and_false]; done)
                       | (rw [show (a.t == x.nd) = false by rw [beq_eq_false_iff_ne]; assumption, Bool.false_and]; done))
            · skip
              refine aExit rfl ?_
              refine aReg ?_
              refine sp pAd ?_
              refine sp pM ?_
              refine oNil ?_
              refine ⟨(j + 1, _, _), ?_, by (try dsimp only); omega, ⟨gInt rfl (by first | rfl | omega | simp), rfl, rfl, rfl, rfl, rfl, trivial⟩, _, (by repeat constructor)⟩
              refine ⟨by omega, ?_⟩
              obtain rfl : k = l.length := by omega
              have := hK.done hl hx2
              rw [take_step hx, List.map_append]
              exact this
        · skip
          refine aExit rfl ?_
          refine aSeq ?_
          refine aWeak (weak_nil 121 4) ?_
          refine aReg ?_
          refine sp pMa ?_
          refine oNil ?_
          refine aSeq ?_
          refine aSeq ?_
          refine aReg ?_
          refine sp pM ?_
          refine sp (by first | exact pLm sl_41 | exact pLs sl_41 | exact pLv sl_41) ?_
          refine sp pM ?_
          refine oNil ?_
          refine aBlock ?_
          obtain rfl : j = ts.length := by omega
          rw [List.take_length] at hI
          refine loopF (α := Nat × List Wy × Option Nat × Nat × List Int) (kept := [(6, _), (75, _), (76, _)]) (fun (i, out, g, c, ks) => i ≤ (rtsM l r).length ∧ out = (waysM l r).take i ∧ ks = ((rtsM l r).take i).map (·.nd)) (fun (i, out, g, c, ks) => [(77, .int i), (14, .v (slV g out.length c))]) (fun (i, out, g, c, ks) => [.box b28 [.int r, .v (.map (some b22)), .v (.map (some b25)), .v (.map (some b26))], .map b22 (kvM u64A at_), .map b25 (kvM slE m), .map b26 (kvM u64A mm), .fam 3 1 (famL intA (mDels m ks)), .sl g c 121 4 (out.map wyC)]) (fun (i, out, g, c, ks) => (rtsM l r).length - i) (0, [], _, _, []) ?_ ⟨gInt rfl (by first | rfl | omega | simp), gLen rfl (by first | rfl | simp | (simp; omega)), rfl, rfl, rfl, trivial⟩ (by repeat constructor) ?_
          · skip
            exact ⟨by omega, rfl, rfl⟩
          · rintro ⟨i, out, g, c, ks⟩ ⟨hi2, ho, hks⟩
            refine aSeq ?_
            refine aReg ?_
            refine sp pB ?_
            refine oNil ?_
            refine aSeq ?_
            refine aCondDec rfl (fun c78 => ?_) (fun c78 => ?_)
            · skip
              refine aSkip ?_
              refine aSeq ?_
              refine aBlock ?_
              refine aSeq ?_
              obtain ⟨x, hx⟩ : ∃ z, (rtsM l r)[i]? = some z := ⟨_, List.getElem?_eq_getElem (by omega)⟩
              have hol : out.length ≤ 65 := by rw [ho]; unfold waysM; rw [List.length_take, List.length_map]; omega
              obtain ⟨hok, hx1, hx2, hx3⟩ := rtsM_mem (List.mem_of_getElem? hx)
              have hl := arcs_ok hok
              have hN := near_of hok hperm hsort
              have hmem : x.nd ∈ ts.map (·.nd) := (hN.mem x.nd).2 ⟨hx2, hx1⟩
              have hvl := near_len hok hll hN hmem
              have hIx := hI x.nd
              rw [if_pos hmem, if_pos hmem] at hIx
              have hsl : (slAt m x.nd).l.length ≤ 11696336715653 := by rw [hIx.1]; exact hvl
              have hni : x.nd ∉ ks := fun hm => by
                rw [hks] at hm
                obtain ⟨q, hq⟩ := List.mem_iff_getElem?.1 hm
                rw [List.getElem?_map, List.getElem?_take] at hq
                split at hq
                · have hnd := ((hperm.map (·.nd)).nodup_iff).1 hN.nd
                  have hq2 : ((rtsM l r).map (·.nd))[q]? = some x.nd := by rw [List.getElem?_map]; exact hq
                  have hi2 : ((rtsM l r).map (·.nd))[i]? = some x.nd := by rw [List.getElem?_map, hx]; rfl
                  obtain ⟨g1, e1⟩ := List.getElem?_eq_some_iff.1 hq2
                  obtain ⟨g2, e2⟩ := List.getElem?_eq_some_iff.1 hi2
                  exact List.pairwise_iff_getElem.1 (List.nodup_iff_pairwise_ne.1 hnd) q i g1 g2 (by omega) (e1.trans e2.symm)
                · simp at hq
              refine aReg ?_
              first | refine sp (pIx es_41) ?_ | (refine obtSN 75 77 rfl rfl (by omega) (fun x79 hx79 => ?_); refine sp (pIs es_41 hx79) ?_) | (refine obtS 75 77 rfl rfl (by omega) (by omega) (fun x79 hx79 => ?_); refine sp (pIs es_41 hx79) ?_) | refine sp (pIo es_41) ?_
              refine sr (by first | exact rSW ty_49 rfl | exact rSA ty_49 | exact rBWa ty_49 | exact rBW ty_49 | exact rBA ty_49 | exact rArA ty_49 (fun _ => rfl)) ?_
              refine sq ?_
              refine qAlloc rfl rfl (by decide) ze_49 rfl (fun b16 => ?_)
              refine sa ?_
              refine oStW rfl rfl rfl rfl (by repeat constructor) ty_49 ?_
              refine oNil ?_
              refine aSeq ?_
              refine aDrawT ec_All_r24_t ec_All_r24_b [] 8 #[false, false, false, false, false, false, false, false] (by kernel_rfl) rfl rfl (fun HT => ?_)
              refine dp HT 0 rfl pM ?_
              refine dp HT 1 rfl pNv ?_
              refine dp HT 2 rfl (pFb fd_234_2) ?_
              refine dr HT 3 rfl (rB1 ty_232) ?_
              refine dp HT 4 rfl (pFb fd_49_0) ?_
              refine dr HT 5 rfl (rB1 ty_3) ?_
              refine dr HT 6 rfl (rMG mo_232 ze_25 (sl0 : SlE Int) .refl) ?_
              refine dp HT 7 rfl pMa ?_
              refine dE HT ?_
              clear HT
              refine aSeq ?_
              refine aWeak (weak_famAt x.nd) ?_
              rw [slAt_dels ks hni]
              refine aReg ?_
              refine sp pM ?_
              refine sa ?_
              refine aCall (hin := [_]) (hfr := _) rfl rfl (by decide) rfl rfl (.cons (by repeat constructor) .nil) (triple_sort srt rfl ⟨_, Try.func193, by kernel_rfl, rfl⟩ (slAt m x.nd).g (slAt m x.nd).c 3 (slAt m x.nd).l (by omega)) ?_
              rintro _ _ ⟨rfl, rfl⟩
              refine oNil ?_
              refine aDrawS (h1 := [.box b16 _, .box b28 _, .map b26 _]) ec_All_r26_t ec_All_r26_b [16] 18 #[false, false, false, false, false, false, false, false, false, false, false, false, false, false, false, false, false, false] (by kernel_rfl) rfl rfl (.cons (by repeat constructor) (.cons (by repeat constructor) (.cons (by repeat constructor) .nil))) (fun HT => ?_)
              refine ep HT 0 rfl pM ?_
              refine ep HT 1 rfl (pFb fd_49_0) ?_
              refine er HT 2 rfl (rB1 ty_3) ?_
              refine ep HT 3 rfl (pFb fd_49_2) ?_
              refine er HT 4 rfl (rB1 ty_37) ?_
              refine ep HT 5 rfl pM ?_
              refine ep HT 7 rfl pM ?_
              refine ep HT 8 rfl pNv ?_
              refine ep HT 9 rfl (pFb fd_234_3) ?_
              refine er HT 10 rfl (rB1 ty_231) ?_
              refine ep HT 11 rfl (pFb fd_49_0) ?_
              refine er HT 12 rfl (rB1 ty_3) ?_
              refine er HT 13 rfl (rMG mo_231 ze_37 (0 : Int) .refl) ?_
              refine eOneS (i := 6) #[true, true, true, true, true, true, true, true, true, true, true, true, true, true, false, false, false, false] rfl (HT.one (by kernel_rfl)) (by decide) ?_
              · skip
                refine stA (hx := [.sl (slAt m x.nd).g _ _ 1 _]) (wantN rfl) (fun t ht => by cases ht <;> decide) (.cons (by repeat constructor) .nil) (by repeat constructor) ?_
                first | refine coM rfl rfl rfl (compact_int2 (g := (slAt m x.nd).g) (c := (slAt m x.nd).c) (n := (slAt m x.nd).l.length) (l := sortI (slAt m x.nd).l) (sortI_length _).symm (by rw [sortI_length]; omega)) (fun g96 k96 => ?_) | refine co rfl rfl rfl (compact_int2 (g := (slAt m x.nd).g) (c := (slAt m x.nd).c) (n := (slAt m x.nd).l.length) (l := sortI (slAt m x.nd).l) (sortI_length _).symm (by rw [sortI_length]; omega)) (fun g96 k96 => ?_)
                refine eWeak (weak_settle (k := 96) rfl (by repeat constructor) (by simp)) (fun b hb => by simp [owns, HA.own] at hb ⊢; rcases hb with h | h | h <;> simp [h]) ?_
                refine undel (d := 96) rfl ?_
                dsimp only [List.cons_append, List.nil_append]
                refine ef HT 14 rfl (pBuild rfl st_121 ze_121 rfl rfl rfl rfl) ?_
                refine e1 HT 15 rfl ?_
                refine qLit (l := [_]) rfl rfl (by decide) us_117 ty_121 ze_121 rfl (by decide) (by decide) rfl rfl rfl (fun b105 => ?_)
                refine eLast ?_
                refine f1 HT 16 rfl ?_
                refine oAppT ([⟨x.nd, x.c, cptL (sortI (slAt m x.nd).l), mAt mm x.nd⟩] : List Wy) rfl rfl (by repeat constructor) (srcOwn rfl (by repeat constructor) rfl) el_117 sl_117 (fun g106 k106 => ?_)
                refine fp HT 17 rfl pMa ?_
                refine fE HT ?_
                clear HT
                rw [← mDels_app]
                refine aReg ?_
                refine sp pAd ?_
                refine sp pM ?_
                refine oNil ?_
                refine ⟨(i + 1, _, _, _, _), ?_, by (try dsimp only); omega, ⟨gInt rfl (by first | rfl | omega | simp), gLen rfl (by first | rfl | simp | (simp; omega)), rfl, rfl, rfl, trivial⟩, _, (by repeat constructor)⟩
                refine ⟨by omega, ?_, by rw [take_step hx, List.map_append, ← hks]; rfl⟩
                have hw : (waysM l r)[i]? = some ⟨x.nd, x.c, viaS l r x.nd, (evV l r x.nd).2⟩ := by unfold waysM; rw [List.getElem?_map, hx]; rfl
                rw [take_step hw, ← ho, hIx.1, hIx.2, cpt_via hl (arcsB_sorted hok) hx2 hx1]
            · skip
              refine aExit rfl ?_
              refine aSeq ?_
              refine aReg ?_
              refine sp pM ?_
              refine sp pMa ?_
              refine oNil ?_
              refine aRet ?_
              refine finOwn rfl ?_
              obtain rfl : i = (rtsM l r).length := by omega
              rw [ho, show (waysM l r).take (rtsM l r).length = waysM l r by unfold waysM; rw [List.take_of_length_le (by simp)]]
theorem ec_All_s {l : List Arc} {r : Int} (hll : l.length ≤ 100) : Triple Try.prog 102 [.sl 3 (l.map arcC), .int r] [] (Is (.sl 4 ((waysM l r).map wyC)) []) := (ec_All (l := l) (r := r) hll).settle
def pickW (w : Wy) (n : Int) : Int := if w.vs.length = 0 then 0 else w.vs.getD (n.toNat % w.vs.length) 0
/- ecmp.Pick -/
def ec_Pick_r3_T : Bool × List (List Nat × List Nat) := (true, [([], []), ([0], [0]), ([], []), ([], []), ([3], [3]), ([4], [4]), ([5], [5]), ([2, 6], [2, 6]), ([1, 7], [1, 7]), ([8], [8]), ([9, 0, 1, 2, 3, 4, 5, 6, 7, 8, 9], [9])])
def ec_Pick_r3_B : List Nat := [0, 1, 0, 0, 8, 24, 56, 124, 255, 511, 1023]
theorem ec_Pick_r3_t : Go.Proofs.YtmcannmjielalaaW.PrintLast.rtab .any (Go.Proofs.YtmcannmjielalaaW.PrintLast.opsOf Try.f105 3) = ec_Pick_r3_T := by kernel_rfl
theorem ec_Pick_r3_b : Go.Proofs.YtmcannmjielalaaW.PrintLast.waitsOk ec_Pick_r3_T.2 ec_Pick_r3_B = true := by kernel_rfl
set_option maxRecDepth 100000 in
set_option maxHeartbeats 400000 in
theorem ec_Pick {w : Wy} {n : Int} (h0 : 0 ≤ n) (h1 : n ≤ 18446744073709551615) (hw : w.vs.length ≤ 1000000) : Triple Try.prog 105 [.agg (wyC w), .v (.int .u64 n)] [] (Is (.int (pickW w n)) []) := by
  refine triple_of Try.func105 rfl (by kernel_rfl) rfl (by simp) ?_
  refine aSeq ?_
  refine aReg ?_
  refine sq ?_
  refine qBox rfl rfl (by decide) rfl rfl (fun b2 => ?_)
  refine sp pMa ?_
  refine oNil ?_
  refine aSeq ?_
  refine aSeq ?_
  refine aReg ?_
  refine sp (pFb fd_121_2) ?_
  refine sr (rB1 ty_25) ?_
  refine sp (by first | exact pLm sl_25 | exact pLs sl_25 | exact pLv sl_25) ?_
  refine sp pB ?_
  refine oNil ?_
  refine aCondEq rfl (fun c8 => ?_) (fun c8 => ?_)
  · skip
    refine aSeq ?_
    refine aReg ?_
    refine sp pMa ?_
    refine oNil ?_
    refine aRet ?_
    refine finIs rfl ?_
    unfold pickW
    rw [if_pos (by omega)]
    rfl
  · skip
    refine aSkip ?_
    refine aSeq ?_
    have hml : n.toNat % w.vs.length < w.vs.length := Nat.mod_lt _ (by omega)
    have hmt : n.tmod (w.vs.length : Int) = ((n.toNat % w.vs.length : Nat) : Int) := by rw [Int.tmod_eq_emod_of_nonneg h0, Int.natCast_emod, Int.toNat_of_nonneg h0]
    obtain ⟨x, hx⟩ : ∃ z, w.vs[(n.toNat % w.vs.length)]? = some z := ⟨_, List.getElem?_eq_getElem (by omega)⟩
    have hx2 : w.vs[((n.toNat % w.vs.length : Nat) : Int).toNat]? = some x := by rw [Int.toNat_natCast]; exact hx
    refine aDrawT ec_Pick_r3_t ec_Pick_r3_b [] 11 #[false, false, false, false, false, false, false, false, false, false, false] (by kernel_rfl) rfl rfl (fun HT => ?_)
    refine dp HT 0 rfl (pFb fd_121_2) ?_
    refine dr HT 1 rfl (rB1 ty_25) ?_
    refine dp HT 2 rfl pM ?_
    refine dp HT 3 rfl (pFb fd_121_2) ?_
    refine dr HT 4 rfl (rB1 ty_25) ?_
    refine dp HT 5 rfl (by first | exact pLm sl_25 | exact pLs sl_25 | exact pLv sl_25) ?_
    refine dp HT 6 rfl (by first | exact pCvK ik_3 ik_37 | exact pConv rfl rfl ik_3 ik_37 rfl) ?_
    refine dp HT 7 rfl (pRem rfl rfl rfl (by first | decide | omega)) ?_
    rw [hmt]
    first | refine dp HT 8 rfl (pIx es_25) ?_ | (refine obtDN 10 16 rfl rfl (by omega) (fun x17 hx17 => ?_); refine dp HT 8 rfl (pIs es_25 hx17) ?_) | (refine obtD 10 16 rfl rfl (by omega) (by omega) (fun x17 hx17 => ?_); refine dp HT 8 rfl (pIs es_25 hx17) ?_) | refine dp HT 8 rfl (pIo es_25) ?_
    refine dr HT 9 rfl (by first | exact rS1 ty_3 | exact rB1 ty_3 | exact rAr ty_3 | exact rArL ty_3 | exact rArR2 ty_3) ?_
    refine dp HT 10 rfl pMa ?_
    refine dE HT ?_
    clear HT
    refine aRet ?_
    refine finIs rfl ?_
    unfold pickW
    rw [if_neg (by omega), List.getD, hx]
    rfl
end A
end Go.Proofs.Ytmcannmjielalaa
set_option linter.unusedVariables false
set_option linter.unusedSimpArgs false
namespace Go.Proofs.Ytmcannmjielalaa
namespace A
theorem es_117 : elemSize Try.prog 117 = some 4 := by kernel_rfl
theorem fd_121_0 : fieldOf Try.prog 121 0 = some (0, 1, false) := by kernel_rfl
theorem fd_121_1 : fieldOf Try.prog 121 1 = some (1, 1, false) := by kernel_rfl
theorem fd_121_3 : fieldOf Try.prog 121 3 = some (3, 1, false) := by kernel_rfl
theorem via_len64 {l : List Arc} (hok : arcsB none l = true) (r v : Int) : (viaS l r v).length ≤ 64 := by
  have hl := arcs_ok hok
  have hnd : (viaS l r v).Nodup := by
    rw [List.nodup_iff_pairwise_ne]
    exact (viaS_sorted (arcsB_sorted hok) r v).imp (fun h => by omega)
  have h4 := nodup_len (l := (viaS l r v).map (· - 1)) (n := 64) (by
    rw [List.nodup_iff_pairwise_ne] at hnd ⊢
    rw [List.pairwise_map]
    exact hnd.imp (fun h e => h (by omega))) (fun x hx => by
    obtain ⟨u, hu, rfl⟩ := List.mem_map.1 hx
    obtain ⟨a, q1, _, q3, _⟩ := (viaS_mem hl).1 hu
    have := hl a q1
    unfold AOk at this
    omega)
  simpa using h4
end A
end Go.Proofs.Ytmcannmjielalaa
set_option linter.unusedVariables false
set_option linter.unusedSimpArgs false
namespace Go.Proofs.Ytmcannmjielalaa
namespace A
def sqL : List Arc := [⟨1, 2, 1⟩, ⟨1, 3, 1⟩, ⟨2, 4, 1⟩, ⟨3, 4, 1⟩]
def sqW : List Wy := [⟨2, 1, [2], 1⟩, ⟨3, 1, [3], 1⟩, ⟨4, 2, [2, 3], 2⟩]
theorem sq_ways : waysM sqL 1 = sqW := by decide +kernel
theorem Triple.args {P : Program} {f : FuncId} {args args' : List AV} {h : List HA} {Q : AV → List HA → Prop} (hc : ∀ F w vs, Reps F w args vs → Reps F w args' vs) (t : Triple P f args' h Q) : Triple P f args h Q := ⟨t.1, fun F w vs hr ha => t.2 F w vs hr (hc F w vs ha)⟩
theorem zero_arg {F : Nat → Prop} {w : World} {n : Int} {vs : Array Value} (h : Reps F w [.agg [.int 0, .v (.int .u64 0), .v (.slice none 0 0), .v (.int .u64 0)], .v (.int .u64 n)] vs) : Reps F w [.agg (wyC ⟨0, 0, [], 0⟩), .v (.int .u64 n)] vs := ⟨h.1, fun i av x hi hx => by
  match i with
  | 0 =>
    have h0 := h.2 0 _ x rfl hx
    simp at hi
    subst hi
    cases h0 with
    | agg _ xs hl h1 hR =>
      refine .agg _ xs hl h1 (fun j av v hj hv => ?_)
      match j with
      | 0 => exact hR 0 av v hj hv
      | 1 => exact hR 1 av v hj hv
      | 2 =>
        have h3 := hR 2 (.v (.slice none 0 0)) v rfl hv
        simp [wyC] at hj
        subst hj
        cases h3
        exact .sl0 _ _ _
      | 3 => exact hR 3 av v hj hv
      | j + 4 => simp [wyC] at hj
  | 1 => exact h.2 1 av x hi hx
  | i + 2 => simp at hi⟩
theorem ec_Pick0 {n : Int} (h0 : 0 ≤ n) (h1 : n ≤ 18446744073709551615) : Triple Try.prog 105 [.agg [.int 0, .v (.int .u64 0), .v (.slice none 0 0), .v (.int .u64 0)], .v (.int .u64 n)] [] (Is (.int 0) []) :=
  (ec_Pick (w := ⟨0, 0, [], 0⟩) h0 h1 (by decide)).args fun F w vs h => zero_arg h
theorem ways_vs {l : List Arc} (hok : arcsB none l = true) {r : Int} : ∀ x ∈ waysM l r, x.vs.length ≤ 64 := fun x hx => by
  unfold waysM at hx
  obtain ⟨y, _, rfl⟩ := List.mem_map.1 hx
  exact via_len64 hok r y.nd
structure WayF (l : List Arc) (r : Int) (w : Wy) (x : Rt) : Prop where
  nd : w.nd = x.nd
  c : w.c = x.c
  v0 : w.vs[0]? = some x.via
  many : (w.vs.length : Int) ≤ w.mn
theorem way_f {l : List Arc} (hok : arcsB none l = true) {r : Int} {i : Nat} {w : Wy} {x : Rt} (hw : (waysM l r)[i]? = some w) (hx : (rtsM l r)[i]? = some x) : WayF l r w x := by
  have hl := arcs_ok hok
  have hs := arcsB_sorted hok
  obtain ⟨_, h1, h2, h3⟩ := rtsM_mem (List.mem_of_getElem? hx)
  have e : w = ⟨x.nd, x.c, viaS l r x.nd, (evV l r x.nd).2⟩ := by
    unfold waysM at hw
    rw [List.getElem?_map, hx] at hw
    cases hw
    rfl
  subst e
  refine ⟨rfl, rfl, ?_, many_ge hok _ x.nd (Nat.le_refl _) h2 h1⟩
  show (viaS l r x.nd)[0]? = _
  rw [via_head]
  have hv := congrArg Rt.via h3
  simp only at hv
  rw [hv]
  obtain ⟨u, hu⟩ := fh_ex hl h2 h1
  obtain ⟨a, ha, hf, ht, hc⟩ := hu
  have hp : viaP l r x.nd a = true := (viaP_iff hl ha).2 ⟨hf, by rw [ht]; exact hc⟩
  unfold viaM
  cases hfi : l.find? (viaP l r x.nd) with
  | none => have := List.find?_eq_none.1 hfi a ha; exact absurd hp this
  | some b => rfl
theorem pick_in {w : Wy} {n : Int} (h : 0 < w.vs.length) : w.vs.any (fun x => x == pickW w n) = true := by
  unfold pickW
  rw [if_neg (by omega), List.any_eq_true]
  have hlt := Nat.mod_lt n.toNat h
  refine ⟨_, List.getElem_mem hlt, ?_⟩
  rw [List.getD, List.getElem?_eq_getElem hlt]
  simp
/- waymarklaw36.awake -/
set_option maxRecDepth 100000 in
set_option maxHeartbeats 400000 in
theorem law36_awake  : Triple Try.prog 101 [] [] (Is (.v (.bool true)) []) := by
  refine triple_of Try.func101 rfl (by kernel_rfl) rfl (by simp) ?_
  refine aSeq ?_
  refine aReg ?_
  refine sp pMa ?_
  refine oNil ?_
  refine aSeq ?_
  refine aReg ?_
  refine sp (pBuild rfl st_36 ze_36 rfl rfl rfl rfl) ?_
  refine sp (pBuild rfl st_36 ze_36 rfl rfl rfl rfl) ?_
  refine sp (pBuild rfl st_36 ze_36 rfl rfl rfl rfl) ?_
  refine sp (pBuild rfl st_36 ze_36 rfl rfl rfl rfl) ?_
  refine sq ?_
  refine qLit (l := [_, _, _, _]) rfl rfl (by decide) us_22 ty_36 ze_36 rfl (by decide) (by decide) rfl rfl rfl (fun b7 => ?_)
  refine sp pMa ?_
  refine oNil ?_
  refine aSeq ?_
  refine aWeak (weak_settle (k := 1) rfl (by repeat constructor) (by first | rfl | (simp; done) | (simp; omega) | (simp_all; done))) ?_
  refine aReg ?_
  refine sp pM ?_
  refine sq ?_
  refine ci rfl rfl rfl (ec_All_s (l := sqL) (r := 1) (by decide)) ?_
  rw [sq_ways]
  refine sp pMa ?_
  refine oNil ?_
  refine aSeq ?_
  refine aReg ?_
  refine sp pM ?_
  refine sp (by first | exact pLm sl_117 | exact pLs sl_117 | exact pLv sl_117) ?_
  refine sp pB ?_
  refine sp pM ?_
  refine gp pM ?_
  have hx1 : sqW[(2 : Int).toNat]? = some ⟨4, 2, [2, 3], 2⟩ := rfl
  have hal : sqW.length = 3 := rfl
  first | refine gp (pIx es_117) ?_ | refine gp (pIo es_117) ?_
  refine gp (by first | exact pFb fd_121_2 | exact pFs fd_121_2) ?_
  refine gr (by first | exact rS1 ty_25 | exact rB1 ty_25 | exact rAr ty_25 | exact rArL ty_25 | exact rArR2 ty_25) ?_
  refine gp (by first | exact pLm sl_25 | exact pLs sl_25 | exact pLv sl_25) ?_
  refine gp pB ?_
  refine sp pK ?_
  refine sp pM ?_
  refine gp pM ?_
  first | refine gp (pIx es_117) ?_ | refine gp (pIo es_117) ?_
  refine gp (by first | exact pFb fd_121_3 | exact pFs fd_121_3) ?_
  refine gr (by first | exact rS1 ty_37 | exact rB1 ty_37 | exact rAr ty_37 | exact rArL ty_37 | exact rArR2 ty_37) ?_
  refine gp pB ?_
  refine sp pK ?_
  refine sp pM ?_
  refine gp pM ?_
  first | refine gp (pIx es_117) ?_ | refine gp (pIo es_117) ?_
  refine gp (by first | exact pFb fd_121_1 | exact pFs fd_121_1) ?_
  refine gr (by first | exact rS1 ty_37 | exact rB1 ty_37 | exact rAr ty_37 | exact rArL ty_37 | exact rArR2 ty_37) ?_
  refine gp pB ?_
  refine sp pK ?_
  refine sp pM ?_
  refine gp pM ?_
  first | refine gp (pIx es_117) ?_ | refine gp (pIo es_117) ?_
  refine gr (by first | exact rSW ty_121 rfl | exact rSA ty_121 | exact rBWa ty_121 | exact rBW ty_121 | exact rBA ty_121 | exact rArA ty_121 (fun _ => rfl)) ?_
  refine ga ?_
  refine (cv rfl rfl rfl (lents_refl _) (ec_Pick (w := ⟨4, 2, [2, 3], 2⟩) (n := 3) (by decide) (by decide) (by decide)) ?_).op
  rw [show pickW ⟨4, 2, [2, 3], 2⟩ 3 = 3 from rfl]
  refine gp pB ?_
  refine sp pK ?_
  refine sp pMa ?_
  refine oNil ?_
  refine aRet ?_
  refine finIs rfl ?_
  rfl
/- waymarklaw36.EcmpLeast -/
def law36_EcmpLeast_r10_T : Bool × List (List Nat × List Nat) := (true, [([], []), ([], []), ([0, 1], [0, 1]), ([2], [2]), ([3], [3]), ([4], [4]), ([5], [5]), ([6], [6]), ([7], [7]), ([7], [7]), ([8, 9, 7], [7, 8, 9]), ([10, 7], [7, 10]), ([11, 7], [7, 11]), ([12, 7], [7, 12]), ([13, 7], [7, 13]), ([7], [7]), ([7], [7]), ([15, 16, 7], [7, 15, 16]), ([17, 7], [7, 17]), ([18, 7], [7, 18]), ([14, 19, 7], [7, 14, 19]), ([7, 20], [7, 20]), ([21, 7], [21]), ([22], [22]), ([22], [22]), ([23, 24, 22], [22, 23, 24]), ([25, 22], [22, 25]), ([26, 22], [22, 26]), ([22], [22]), ([22], [22]), ([28, 29, 22], [22, 28, 29]), ([30, 22], [22, 30]), ([31, 22], [22, 31]), ([27, 32, 22], [22, 27, 32]), ([22, 33], [22, 33]), ([34, 22], [34]), ([35], [35]), ([35], [35]), ([36, 37, 35], [35, 36, 37]), ([38, 35], [35, 38]), ([39, 35], [35, 39]), ([35], [35]), ([35], [35]), ([41, 42, 35], [35, 41, 42]), ([43, 35], [35, 43]), ([44, 35], [35, 44]), ([40, 45, 35], [35, 40, 45]), ([35, 46], [35, 46]), ([47, 35], [47]), ([48], [48]), ([48], [48]), ([49, 50, 48], [48, 49, 50]), ([51, 48], [48, 51]), ([52, 48], [48, 52]), ([48], [48]), ([48], [48]), ([54, 55, 48], [48, 54, 55]), ([56, 48], [48, 56]), ([57, 48], [48, 57]), ([58, 48], [48, 58]), ([59, 48], [48, 59]), ([53, 60, 48], [48, 53, 60]), ([48, 61], [48, 61])])
def law36_EcmpLeast_r10_B : List Nat := [0, 0, 3, 7, 15, 31, 63, 127, 255, 255, 1023, 2047, 4095, 8191, 16383, 255, 255, 98559, 229631, 491775, 1048575, 2097151, 4194303, 8388607, 8388607, 33554431, 67108863, 134217727, 8388607, 8388607, 813694975, 1887436799, 4034920447, 8589934591, 17179869183, 34359738367, 68719476735, 68719476735, 274877906943, 549755813887, 1099511627775, 68719476735, 68719476735, 6665789243391, 15461882265599, 33054068310015, 70368744177663, 140737488355327, 281474976710655, 562949953421311, 562949953421311, 2251799813685247, 4503599627370495, 9007199254740991, 562949953421311, 562949953421311, 54606145481867263, 126663739519795199, 270778927595651071, 559009303747362815, 1135470056050786303, 2305843009213693951, 4611686018427387903]
theorem law36_EcmpLeast_r10_t : Go.Proofs.YtmcannmjielalaaW.PrintLast.rtab .any (Go.Proofs.YtmcannmjielalaaW.PrintLast.opsOf Try.f22 10) = law36_EcmpLeast_r10_T := by kernel_rfl
theorem law36_EcmpLeast_r10_b : Go.Proofs.YtmcannmjielalaaW.PrintLast.waitsOk law36_EcmpLeast_r10_T.2 law36_EcmpLeast_r10_B = true := by kernel_rfl
def law36_EcmpLeast_r16_T : Bool × List (List Nat × List Nat) := (true, [([], []), ([0], [0]), ([1], [1]), ([1], [1]), ([2, 3, 1], [1, 2, 3]), ([4, 1], [1, 4]), ([5, 1], [1, 5]), ([1], [1]), ([6, 7, 1], [1, 6, 7]), ([8, 1], [1, 8]), ([1], [1]), ([1], [1]), ([10, 11, 1], [1, 10, 11]), ([12, 1], [1, 12]), ([1], [1]), ([13, 14, 1, 1], [1, 13, 14]), ([9, 15, 1], [1, 9, 15]), ([1, 16], [1, 16]), ([17, 15, 0, 1, 2, 3, 4, 5, 6, 7, 8, 9, 10, 11, 12, 13, 14, 15, 16, 17], [0, 17])])
def law36_EcmpLeast_r16_B : List Nat := [0, 1, 3, 3, 15, 31, 63, 3, 255, 511, 3, 3, 3075, 7171, 3, 31747, 65535, 131071, 262143]
theorem law36_EcmpLeast_r16_t : Go.Proofs.YtmcannmjielalaaW.PrintLast.rtab .any (Go.Proofs.YtmcannmjielalaaW.PrintLast.opsOf Try.f22 16) = law36_EcmpLeast_r16_T := by kernel_rfl
theorem law36_EcmpLeast_r16_b : Go.Proofs.YtmcannmjielalaaW.PrintLast.waitsOk law36_EcmpLeast_r16_T.2 law36_EcmpLeast_r16_B = true := by kernel_rfl
set_option maxRecDepth 100000 in
set_option maxHeartbeats 4000000 in
theorem law36_EcmpLeast {l : List Arc} {r n : Int} (hll : l.length ≤ 9223372036854775807) (hn0 : 0 ≤ n) (hn1 : n ≤ 18446744073709551615) : Triple Try.prog 22 [.sl 3 (l.map arcC), .int r, .v (.int .u64 n)] [] (Is (.v (.bool true)) []) := by
  refine triple_of Try.func22 rfl (by kernel_rfl) rfl (by simp) ?_
  refine aSeq ?_
  refine aReg ?_
  refine sp pMa ?_
  refine oNil ?_
  refine aSeq ?_
  refine aSeq ?_
  refine aReg ?_
  refine sp pM ?_
  refine sp (by first | exact pLm sl_22 | exact pLs sl_22) ?_
  refine sp pB ?_
  refine sp pM ?_
  refine oSplitDec 15 rfl (fun c15 => ?_) (fun c15 => ?_)
  · skip
    refine gf ?_
    refine gf ?_
    refine gf ?_
    refine sp pK ?_
    refine oNil ?_
    refine aCondT rfl ?_
    refine aSeq ?_
    refine aReg ?_
    refine sq ?_
    refine cv rfl rfl rfl (lents_refl _) law36_awake ?_
    refine sp pMa ?_
    refine oNil ?_
    refine aRet ?_
    refine finIs rfl ?_
    rfl
  · skip
    refine gp pM ?_
    refine ga ?_
    refine (cv rfl rfl rfl (lents_refl _) (ref24_May (by omega)) ?_).op
    refine gp pNo ?_
    refine sp pK ?_
    refine oNil ?_
    refine aCondNot rfl (fun c19 => ?_) (fun c19 => ?_)
    · skip
      refine aSeq ?_
      refine aReg ?_
      refine sq ?_
      refine cv rfl rfl rfl (lents_refl _) law36_awake ?_
      refine sp pMa ?_
      refine oNil ?_
      refine aRet ?_
      refine finIs rfl ?_
      rfl
    · skip
      refine aSkip ?_
      refine aSeq ?_
      have hok : arcsB none l = true := by simp_all
      have hrl := rtsM_len l r
      have hwl : (waysM l r).length = (rtsM l r).length := by unfold waysM; rw [List.length_map]
      refine aReg ?_
      refine sp pM ?_
      refine sp pM ?_
      refine sq ?_
      refine ci rfl rfl rfl (ec_All_s (l := l) (r := r) (by omega)) ?_
      refine sp pMa ?_
      refine oNil ?_
      refine aSeq ?_
      refine aReg ?_
      refine sp pM ?_
      refine sp pM ?_
      refine sq ?_
      refine ci rfl rfl rfl (spf_Routes_s (l := l) (r := r) (by omega)) ?_
      refine sp pMa ?_
      refine oNil ?_
      refine aSeq ?_
      refine aSeq ?_
      refine aReg ?_
      refine sp pM ?_
      refine sp (by first | exact pLm sl_117 | exact pLs sl_117 | exact pLv sl_117) ?_
      refine sp pM ?_
      refine sp (by first | exact pLm sl_41 | exact pLs sl_41 | exact pLv sl_41) ?_
      refine sp pB ?_
      refine oNil ?_
      refine aCondNe rfl (fun c31 => ?_) (fun c31 => ?_)
      · skip
        refine aSeq ?_
        refine aReg ?_
        refine sp pMa ?_
        refine oNil ?_
        refine aRet ?_
        exfalso
        omega
      · skip
        refine aSkip ?_
        refine aSeq ?_
        refine aSeq ?_
        refine aReg ?_
        refine sp pMa ?_
        refine oNil ?_
        refine aBlock ?_
        refine loopF (α := Nat) (kept := [(2, _), (7, _), (8, _)]) (fun i => i ≤ (waysM l r).length) (fun i => [(9, .int i)]) (fun i => []) (fun i => (waysM l r).length - i) 0 ?_ ⟨gInt rfl (by first | rfl | omega | simp), rfl, rfl, rfl, trivial⟩ (by repeat constructor) ?_
        · skip
          omega
        · rintro i hi
          refine aSeq ?_
          refine aSeq ?_
          refine aReg ?_
          refine sp pM ?_
          refine sp pM ?_
          refine sp (by first | exact pLm sl_117 | exact pLs sl_117 | exact pLv sl_117) ?_
          refine sp pB ?_
          refine oNil ?_
          refine aCondDec rfl (fun c35 => ?_) (fun c35 => ?_)
          · skip
            refine aSkip ?_
            refine aSeq ?_
            refine aBlock ?_
            refine aSeq ?_
            refine aSeq ?_
            obtain ⟨y, hy⟩ : ∃ z, (waysM l r)[i]? = some z := ⟨_, List.getElem?_eq_getElem (by omega)⟩
            obtain ⟨x, hx⟩ : ∃ z, (rtsM l r)[i]? = some z := ⟨_, List.getElem?_eq_getElem (by omega)⟩
            have hwf := way_f hok hy hx
            have hvl := ways_vs hok y (List.mem_of_getElem? hy)
            have hv0 : y.vs[(0 : Int).toNat]? = some x.via := hwf.v0
            have hpos : 0 < y.vs.length := (List.getElem?_eq_some_iff.1 hwf.v0).1
            have hwn := hwf.nd
            have hwc := hwf.c
            have hwm := hwf.many
            have hpi := pick_in (w := y) (n := n) hpos
            refine aDrawT law36_EcmpLeast_r10_t law36_EcmpLeast_r10_b [] 63 #[false, false, false, false, false, false, false, false, false, false, false, false, false, false, false, false, false, false, false, false, false, false, false, false, false, false, false, false, false, false, false, false, false, false, false, false, false, false, false, false, false, false, false, false, false, false, false, false, false, false, false, false, false, false, false, false, false, false, false, false, false, false, false] (by kernel_rfl) rfl rfl (fun HT => ?_)
            refine dp HT 0 rfl pM ?_
            refine dp HT 1 rfl pM ?_
            first | refine dp HT 2 rfl (pIx es_117) ?_ | (refine obtDN 38 39 rfl rfl (by omega) (fun x40 hx40 => ?_); refine dp HT 2 rfl (pIs es_117 hx40) ?_) | (refine obtD 38 39 rfl rfl (by omega) (by omega) (fun x40 hx40 => ?_); refine dp HT 2 rfl (pIs es_117 hx40) ?_) | refine dp HT 2 rfl (pIo es_117) ?_
            refine dp HT 3 rfl (by first | exact pFb fd_121_2 | exact pFs fd_121_2) ?_
            refine dr HT 4 rfl (by first | exact rS1 ty_25 | exact rB1 ty_25 | exact rAr ty_25 | exact rArL ty_25 | exact rArR2 ty_25) ?_
            refine dp HT 5 rfl (by first | exact pLm sl_25 | exact pLs sl_25 | exact pLv sl_25) ?_
            refine dp HT 6 rfl pB ?_
            refine dp HT 7 rfl pM ?_
            refine dSplitEq 45 rfl (fun c45 => ?_) (fun c45 => ?_)
            · skip
              refine dS HT 8 rfl ?_
              refine dS HT 9 rfl ?_
              refine dS HT 10 rfl ?_
              refine dS HT 11 rfl ?_
              refine dS HT 12 rfl ?_
              refine dS HT 13 rfl ?_
              refine dS HT 14 rfl ?_
              refine dS HT 15 rfl ?_
              refine dS HT 16 rfl ?_
              refine dS HT 17 rfl ?_
              refine dS HT 18 rfl ?_
              refine dS HT 19 rfl ?_
              refine dS HT 20 rfl ?_
              refine dp HT 21 rfl pK ?_
              refine dp HT 22 rfl pM ?_
              refine dS HT 23 rfl ?_
              refine dS HT 24 rfl ?_
              refine dS HT 25 rfl ?_
              refine dS HT 26 rfl ?_
              refine dS HT 27 rfl ?_
              refine dS HT 28 rfl ?_
              refine dS HT 29 rfl ?_
              refine dS HT 30 rfl ?_
              refine dS HT 31 rfl ?_
              refine dS HT 32 rfl ?_
              refine dS HT 33 rfl ?_
              refine dp HT 34 rfl pK ?_
              refine dp HT 35 rfl pM ?_
              refine dS HT 36 rfl ?_
              refine dS HT 37 rfl ?_
              refine dS HT 38 rfl ?_
              refine dS HT 39 rfl ?_
              refine dS HT 40 rfl ?_
              refine dS HT 41 rfl ?_
              refine dS HT 42 rfl ?_
              refine dS HT 43 rfl ?_
              refine dS HT 44 rfl ?_
              refine dS HT 45 rfl ?_
              refine dS HT 46 rfl ?_
              refine dp HT 47 rfl pK ?_
              refine dp HT 48 rfl pM ?_
              refine dS HT 49 rfl ?_
              refine dS HT 50 rfl ?_
              refine dS HT 51 rfl ?_
              refine dS HT 52 rfl ?_
              refine dS HT 53 rfl ?_
              refine dS HT 54 rfl ?_
              refine dS HT 55 rfl ?_
              refine dS HT 56 rfl ?_
              refine dS HT 57 rfl ?_
              refine dS HT 58 rfl ?_
              refine dS HT 59 rfl ?_
              refine dS HT 60 rfl ?_
              refine dS HT 61 rfl ?_
              refine dp HT 62 rfl pK ?_
              refine dE HT ?_
              clear HT
              refine aCondT rfl ?_
              refine aSeq ?_
              refine aReg ?_
              refine sp pMa ?_
              refine oNil ?_
              refine aRet ?_
              exfalso
              first
                | omega
                | (simp_all; done)
                | (simp_all; omega)
            · skip
              refine dpG HT 8 rfl pM ?_
              refine dpG HT 9 rfl pM ?_
              first | refine dpG HT 10 rfl (pIx es_117) ?_ | (refine obtDN 46 47 rfl rfl (by omega) (fun x48 hx48 => ?_); refine dpG HT 10 rfl (pIs es_117 hx48) ?_) | (refine obtD 46 47 rfl rfl (by omega) (by omega) (fun x48 hx48 => ?_); refine dpG HT 10 rfl (pIs es_117 hx48) ?_) | refine dpG HT 10 rfl (pIo es_117) ?_
              refine dpG HT 11 rfl (by first | exact pFb fd_121_2 | exact pFs fd_121_2) ?_
              refine drG HT 12 rfl (by first | exact rS1 ty_25 | exact rB1 ty_25 | exact rAr ty_25 | exact rArL ty_25 | exact rArR2 ty_25) ?_
              first | refine dpG HT 13 rfl (pIx es_25) ?_ | refine dpG HT 13 rfl (pIo es_25) ?_
              refine drG HT 14 rfl (by first | exact rS1 ty_3 | exact rB1 ty_3 | exact rAr ty_3 | exact rArL ty_3 | exact rArR2 ty_3) ?_
              refine dpG HT 15 rfl pM ?_
              refine dpG HT 16 rfl pM ?_
              first | refine dpG HT 17 rfl (pIx es_41) ?_ | (refine obtDN 53 54 rfl rfl (by omega) (fun x55 hx55 => ?_); refine dpG HT 17 rfl (pIs es_41 hx55) ?_) | (refine obtD 53 54 rfl rfl (by omega) (by omega) (fun x55 hx55 => ?_); refine dpG HT 17 rfl (pIs es_41 hx55) ?_) | refine dpG HT 17 rfl (pIo es_41) ?_
              refine dpG HT 18 rfl (by first | exact pFb fd_49_1 | exact pFs fd_49_1) ?_
              refine drG HT 19 rfl (by first | exact rS1 ty_3 | exact rB1 ty_3 | exact rAr ty_3 | exact rArL ty_3 | exact rArR2 ty_3) ?_
              refine dpG HT 20 rfl pB ?_
              refine dp HT 21 rfl pK ?_
              refine dp HT 22 rfl pM ?_
              refine dSplitNe 60 rfl (fun c60 => ?_) (fun c60 => ?_)
              · skip
                refine dS HT 23 rfl ?_
                refine dS HT 24 rfl ?_
                refine dS HT 25 rfl ?_
                refine dS HT 26 rfl ?_
                refine dS HT 27 rfl ?_
                refine dS HT 28 rfl ?_
                refine dS HT 29 rfl ?_
                refine dS HT 30 rfl ?_
                refine dS HT 31 rfl ?_
                refine dS HT 32 rfl ?_
                refine dS HT 33 rfl ?_
                refine dp HT 34 rfl pK ?_
                refine dp HT 35 rfl pM ?_
                refine dS HT 36 rfl ?_
                refine dS HT 37 rfl ?_
                refine dS HT 38 rfl ?_
                refine dS HT 39 rfl ?_
                refine dS HT 40 rfl ?_
                refine dS HT 41 rfl ?_
                refine dS HT 42 rfl ?_
                refine dS HT 43 rfl ?_
                refine dS HT 44 rfl ?_
                refine dS HT 45 rfl ?_
                refine dS HT 46 rfl ?_
                refine dp HT 47 rfl pK ?_
                refine dp HT 48 rfl pM ?_
                refine dS HT 49 rfl ?_
                refine dS HT 50 rfl ?_
                refine dS HT 51 rfl ?_
                refine dS HT 52 rfl ?_
                refine dS HT 53 rfl ?_
                refine dS HT 54 rfl ?_
                refine dS HT 55 rfl ?_
                refine dS HT 56 rfl ?_
                refine dS HT 57 rfl ?_
                refine dS HT 58 rfl ?_
                refine dS HT 59 rfl ?_
                refine dS HT 60 rfl ?_
                refine dS HT 61 rfl ?_
                refine dp HT 62 rfl pK ?_
                refine dE HT ?_
                clear HT
                refine aCondT rfl ?_
                refine aSeq ?_
                refine aReg ?_
                refine sp pMa ?_
                refine oNil ?_
                refine aRet ?_
                exfalso
                first
                  | omega
                  | (simp_all; done)
                  | (simp_all; omega)
              · skip
                refine dpG HT 23 rfl pM ?_
                refine dpG HT 24 rfl pM ?_
                first | refine dpG HT 25 rfl (pIx es_117) ?_ | (refine obtDN 61 62 rfl rfl (by omega) (fun x63 hx63 => ?_); refine dpG HT 25 rfl (pIs es_117 hx63) ?_) | (refine obtD 61 62 rfl rfl (by omega) (by omega) (fun x63 hx63 => ?_); refine dpG HT 25 rfl (pIs es_117 hx63) ?_) | refine dpG HT 25 rfl (pIo es_117) ?_
                refine dpG HT 26 rfl (by first | exact pFb fd_121_0 | exact pFs fd_121_0) ?_
                refine drG HT 27 rfl (by first | exact rS1 ty_3 | exact rB1 ty_3 | exact rAr ty_3 | exact rArL ty_3 | exact rArR2 ty_3) ?_
                refine dpG HT 28 rfl pM ?_
                refine dpG HT 29 rfl pM ?_
                first | refine dpG HT 30 rfl (pIx es_41) ?_ | (refine obtDN 66 67 rfl rfl (by omega) (fun x68 hx68 => ?_); refine dpG HT 30 rfl (pIs es_41 hx68) ?_) | (refine obtD 66 67 rfl rfl (by omega) (by omega) (fun x68 hx68 => ?_); refine dpG HT 30 rfl (pIs es_41 hx68) ?_) | refine dpG HT 30 rfl (pIo es_41) ?_
                refine dpG HT 31 rfl (by first | exact pFb fd_49_0 | exact pFs fd_49_0) ?_
                refine drG HT 32 rfl (by first | exact rS1 ty_3 | exact rB1 ty_3 | exact rAr ty_3 | exact rArL ty_3 | exact rArR2 ty_3) ?_
                refine dpG HT 33 rfl pB ?_
                refine dp HT 34 rfl pK ?_
                refine dp HT 35 rfl pM ?_
                refine dSplitNe 73 rfl (fun c73 => ?_) (fun c73 => ?_)
                · skip
                  refine dS HT 36 rfl ?_
                  refine dS HT 37 rfl ?_
                  refine dS HT 38 rfl ?_
                  refine dS HT 39 rfl ?_
                  refine dS HT 40 rfl ?_
                  refine dS HT 41 rfl ?_
                  refine dS HT 42 rfl ?_
                  refine dS HT 43 rfl ?_
                  refine dS HT 44 rfl ?_
                  refine dS HT 45 rfl ?_
                  refine dS HT 46 rfl ?_
                  refine dp HT 47 rfl pK ?_
                  refine dp HT 48 rfl pM ?_
                  refine dS HT 49 rfl ?_
                  refine dS HT 50 rfl ?_
                  refine dS HT 51 rfl ?_
                  refine dS HT 52 rfl ?_
                  refine dS HT 53 rfl ?_
                  refine dS HT 54 rfl ?_
                  refine dS HT 55 rfl ?_
                  refine dS HT 56 rfl ?_
                  refine dS HT 57 rfl ?_
                  refine dS HT 58 rfl ?_
                  refine dS HT 59 rfl ?_
                  refine dS HT 60 rfl ?_
                  refine dS HT 61 rfl ?_
                  refine dp HT 62 rfl pK ?_
                  refine dE HT ?_
                  clear HT
                  refine aCondT rfl ?_
                  refine aSeq ?_
                  refine aReg ?_
                  refine sp pMa ?_
                  refine oNil ?_
                  refine aRet ?_
                  exfalso
                  first
                    | omega
                    | (simp_all; done)
                    | (simp_all; omega)
                · skip
                  refine dpG HT 36 rfl pM ?_
                  refine dpG HT 37 rfl pM ?_
                  first | refine dpG HT 38 rfl (pIx es_117) ?_ | (refine obtDN 74 75 rfl rfl (by omega) (fun x76 hx76 => ?_); refine dpG HT 38 rfl (pIs es_117 hx76) ?_) | (refine obtD 74 75 rfl rfl (by omega) (by omega) (fun x76 hx76 => ?_); refine dpG HT 38 rfl (pIs es_117 hx76) ?_) | refine dpG HT 38 rfl (pIo es_117) ?_
                  refine dpG HT 39 rfl (by first | exact pFb fd_121_1 | exact pFs fd_121_1) ?_
                  refine drG HT 40 rfl (by first | exact rS1 ty_37 | exact rB1 ty_37 | exact rAr ty_37 | exact rArL ty_37 | exact rArR2 ty_37) ?_
                  refine dpG HT 41 rfl pM ?_
                  refine dpG HT 42 rfl pM ?_
                  first | refine dpG HT 43 rfl (pIx es_41) ?_ | (refine obtDN 79 80 rfl rfl (by omega) (fun x81 hx81 => ?_); refine dpG HT 43 rfl (pIs es_41 hx81) ?_) | (refine obtD 79 80 rfl rfl (by omega) (by omega) (fun x81 hx81 => ?_); refine dpG HT 43 rfl (pIs es_41 hx81) ?_) | refine dpG HT 43 rfl (pIo es_41) ?_
                  refine dpG HT 44 rfl (by first | exact pFb fd_49_2 | exact pFs fd_49_2) ?_
                  refine drG HT 45 rfl (by first | exact rS1 ty_37 | exact rB1 ty_37 | exact rAr ty_37 | exact rArL ty_37 | exact rArR2 ty_37) ?_
                  refine dpG HT 46 rfl pB ?_
                  refine dp HT 47 rfl pK ?_
                  refine dp HT 48 rfl pM ?_
                  refine dSplitNe 86 rfl (fun c86 => ?_) (fun c86 => ?_)
                  · skip
                    refine dS HT 49 rfl ?_
                    refine dS HT 50 rfl ?_
                    refine dS HT 51 rfl ?_
                    refine dS HT 52 rfl ?_
                    refine dS HT 53 rfl ?_
                    refine dS HT 54 rfl ?_
                    refine dS HT 55 rfl ?_
                    refine dS HT 56 rfl ?_
                    refine dS HT 57 rfl ?_
                    refine dS HT 58 rfl ?_
                    refine dS HT 59 rfl ?_
                    refine dS HT 60 rfl ?_
                    refine dS HT 61 rfl ?_
                    refine dp HT 62 rfl pK ?_
                    refine dE HT ?_
                    clear HT
                    refine aCondT rfl ?_
                    refine aSeq ?_
                    refine aReg ?_
                    refine sp pMa ?_
                    refine oNil ?_
                    refine aRet ?_
                    exfalso
                    first
                      | omega
                      | (simp_all; done)
                      | (simp_all; omega)
                  · skip
                    refine dpG HT 49 rfl pM ?_
                    refine dpG HT 50 rfl pM ?_
                    first | refine dpG HT 51 rfl (pIx es_117) ?_ | (refine obtDN 87 88 rfl rfl (by omega) (fun x89 hx89 => ?_); refine dpG HT 51 rfl (pIs es_117 hx89) ?_) | (refine obtD 87 88 rfl rfl (by omega) (by omega) (fun x89 hx89 => ?_); refine dpG HT 51 rfl (pIs es_117 hx89) ?_) | refine dpG HT 51 rfl (pIo es_117) ?_
                    refine dpG HT 52 rfl (by first | exact pFb fd_121_3 | exact pFs fd_121_3) ?_
                    refine drG HT 53 rfl (by first | exact rS1 ty_37 | exact rB1 ty_37 | exact rAr ty_37 | exact rArL ty_37 | exact rArR2 ty_37) ?_
                    refine dpG HT 54 rfl pM ?_
                    refine dpG HT 55 rfl pM ?_
                    first | refine dpG HT 56 rfl (pIx es_117) ?_ | (refine obtDN 92 93 rfl rfl (by omega) (fun x94 hx94 => ?_); refine dpG HT 56 rfl (pIs es_117 hx94) ?_) | (refine obtD 92 93 rfl rfl (by omega) (by omega) (fun x94 hx94 => ?_); refine dpG HT 56 rfl (pIs es_117 hx94) ?_) | refine dpG HT 56 rfl (pIo es_117) ?_
                    refine dpG HT 57 rfl (by first | exact pFb fd_121_2 | exact pFs fd_121_2) ?_
                    refine drG HT 58 rfl (by first | exact rS1 ty_25 | exact rB1 ty_25 | exact rAr ty_25 | exact rArL ty_25 | exact rArR2 ty_25) ?_
                    refine dpG HT 59 rfl (by first | exact pLm sl_25 | exact pLs sl_25 | exact pLv sl_25) ?_
                    refine dpG HT 60 rfl (by first | exact pCvK ik_3 ik_37 | exact pConv rfl rfl ik_3 ik_37 rfl) ?_
                    refine dpG HT 61 rfl pB ?_
                    refine dp HT 62 rfl pK ?_
                    refine dE HT ?_
                    clear HT
                    refine aCondDec rfl (fun c100 => ?_) (fun c100 => ?_)
                    · skip
                      refine aSeq ?_
                      refine aReg ?_
                      refine sp pMa ?_
                      refine oNil ?_
                      refine aRet ?_
                      exfalso
                      first
                        | omega
                        | (simp_all; done)
                        | (simp_all; omega)
                    · skip
                      refine aSkip ?_
                      refine aSeq ?_
                      refine aReg ?_
                      refine sp pMa ?_
                      refine oNil ?_
                      refine aSeq ?_
                      refine aSeq ?_
                      refine aReg ?_
                      refine sp pMa ?_
                      refine oNil ?_
                      refine aBlock ?_
                      refine loopF (α := Nat × Bool) (kept := [(2, _), (7, _), (8, _), (9, _)]) (fun (k, q) => k ≤ y.vs.length ∧ q = (y.vs.take k).any fun x => x == pickW y n) (fun (k, q) => [(11, .int k), (10, .v (.bool q))]) (fun (k, q) => []) (fun (k, q) => y.vs.length - k) (0, false) ?_ ⟨gInt rfl (by first | rfl | omega | simp), rfl, rfl, rfl, rfl, rfl, trivial⟩ (by repeat constructor) ?_
                      · skip
                        exact ⟨by omega, by simp⟩
                      · rintro ⟨k, q⟩ ⟨hk, hq⟩
                        refine aSeq ?_
                        refine aSeq ?_
                        refine aReg ?_
                        refine sp pM ?_
                        refine sp pM ?_
                        refine sp pM ?_
                        first | refine sp (pIx es_117) ?_ | (refine obtSN 102 103 rfl rfl (by omega) (fun x104 hx104 => ?_); refine sp (pIs es_117 hx104) ?_) | (refine obtS 102 103 rfl rfl (by omega) (by omega) (fun x104 hx104 => ?_); refine sp (pIs es_117 hx104) ?_) | refine sp (pIo es_117) ?_
                        refine sp (by first | exact pFb fd_121_2 | exact pFs fd_121_2) ?_
                        refine sr (by first | exact rS1 ty_25 | exact rB1 ty_25 | exact rAr ty_25 | exact rArL ty_25 | exact rArR2 ty_25) ?_
                        refine sp (by first | exact pLm sl_25 | exact pLs sl_25 | exact pLv sl_25) ?_
                        refine sp pB ?_
                        refine oNil ?_
                        refine aCondDec rfl (fun c108 => ?_) (fun c108 => ?_)
                        · skip
                          refine aSkip ?_
                          refine aSeq ?_
                          refine aBlock ?_
                          obtain ⟨u, hu⟩ : ∃ z, y.vs[k]? = some z := ⟨_, List.getElem?_eq_getElem (by omega)⟩
                          refine aDrawT law36_EcmpLeast_r16_t law36_EcmpLeast_r16_b [] 19 #[false, false, false, false, false, false, false, false, false, false, false, false, false, false, false, false, false, false, false] (by kernel_rfl) rfl rfl (fun HT => ?_)
                          refine dp HT 0 rfl pM ?_
                          refine dp HT 1 rfl pM ?_
                          refine dSplit 112 rfl (fun c112 => ?_) (fun c112 => ?_)
                          · skip
                            refine dS HT 2 rfl ?_
                            refine dS HT 3 rfl ?_
                            refine dS HT 4 rfl ?_
                            refine dS HT 5 rfl ?_
                            refine dS HT 6 rfl ?_
                            refine dS HT 7 rfl ?_
                            refine dS HT 8 rfl ?_
                            refine dS HT 9 rfl ?_
                            refine dS HT 10 rfl ?_
                            refine dS HT 11 rfl ?_
                            refine dS HT 12 rfl ?_
                            refine dS HT 13 rfl ?_
                            refine dS HT 14 rfl ?_
                            refine dGo ?_
                            refine eS HT 15 rfl ?_
                            refine eS HT 16 rfl ?_
                            refine ef HT 17 rfl pK ?_
                            refine ePure (i := 18) #[true, true, true, true, true, true, true, true, true, true, true, true, true, true, true, true, true, true, true] rfl rfl rfl (HT.any (by kernel_rfl)) (by exact pMa) (by decide) ?_
                            refine eE HT ?_
                            clear HT
                            refine aReg ?_
                            refine sp pM ?_
                            refine sp pAd ?_
                            refine sp pMa ?_
                            refine oNil ?_
                            refine ⟨(k + 1, _), ?_, by (try dsimp only); omega, ⟨gInt rfl (by first | rfl | omega | simp), rfl, rfl, rfl, rfl, rfl, trivial⟩, _, (by repeat constructor)⟩
                            refine ⟨by omega, ?_⟩
                            rw [take_step hu, List.any_append, ← hq]
                            first
                              | (simp; done)
                              | (simp_all; done)
                          · skip
                            refine dpG HT 2 rfl pM ?_
                            refine dpG HT 3 rfl pM ?_
                            first | refine dpG HT 4 rfl (pIx es_117) ?_ | (refine obtDN 113 114 rfl rfl (by omega) (fun x115 hx115 => ?_); refine dpG HT 4 rfl (pIs es_117 hx115) ?_) | (refine obtD 113 114 rfl rfl (by omega) (by omega) (fun x115 hx115 => ?_); refine dpG HT 4 rfl (pIs es_117 hx115) ?_) | refine dpG HT 4 rfl (pIo es_117) ?_
                            refine dpG HT 5 rfl (by first | exact pFb fd_121_2 | exact pFs fd_121_2) ?_
                            refine drG HT 6 rfl (by first | exact rS1 ty_25 | exact rB1 ty_25 | exact rAr ty_25 | exact rArL ty_25 | exact rArR2 ty_25) ?_
                            refine dpG HT 7 rfl pM ?_
                            first | refine dpG HT 8 rfl (pIx es_25) ?_ | (refine obtDN 117 118 rfl rfl (by omega) (fun x119 hx119 => ?_); refine dpG HT 8 rfl (pIs es_25 hx119) ?_) | (refine obtD 117 118 rfl rfl (by omega) (by omega) (fun x119 hx119 => ?_); refine dpG HT 8 rfl (pIs es_25 hx119) ?_) | refine dpG HT 8 rfl (pIo es_25) ?_
                            refine drG HT 9 rfl (by first | exact rS1 ty_3 | exact rB1 ty_3 | exact rAr ty_3 | exact rArL ty_3 | exact rArR2 ty_3) ?_
                            refine dpG HT 10 rfl pM ?_
                            refine dpG HT 11 rfl pM ?_
                            first | refine dpG HT 12 rfl (pIx es_117) ?_ | (refine obtDN 121 122 rfl rfl (by omega) (fun x123 hx123 => ?_); refine dpG HT 12 rfl (pIs es_117 hx123) ?_) | (refine obtD 121 122 rfl rfl (by omega) (by omega) (fun x123 hx123 => ?_); refine dpG HT 12 rfl (pIs es_117 hx123) ?_) | refine dpG HT 12 rfl (pIo es_117) ?_
                            refine drG HT 13 rfl (by first | exact rSW ty_121 rfl | exact rSA ty_121 | exact rBWa ty_121 | exact rBW ty_121 | exact rBA ty_121 | exact rArA ty_121 (fun _ => rfl)) ?_
                            refine dpG HT 14 rfl pM ?_
                            refine dGo ?_
                            refine e1G HT 15 rfl ?_
                            refine cv rfl rfl rfl (lents_refl _) (ec_Pick (w := y) (n := n) hn0 hn1 (by omega)) ?_
                            refine efG HT 16 rfl pB ?_
                            refine ef HT 17 rfl pK ?_
                            refine ePure (i := 18) #[true, true, true, true, true, true, true, true, true, true, true, true, true, true, true, true, true, true, true] rfl rfl rfl (HT.any (by kernel_rfl)) (by exact pMa) (by decide) ?_
                            refine eE HT ?_
                            clear HT
                            refine aReg ?_
                            refine sp pM ?_
                            refine sp pAd ?_
                            refine sp pMa ?_
                            refine oNil ?_
                            refine ⟨(k + 1, _), ?_, by (try dsimp only); omega, ⟨gInt rfl (by first | rfl | omega | simp), rfl, rfl, rfl, rfl, rfl, trivial⟩, _, (by repeat constructor)⟩
                            refine ⟨by omega, ?_⟩
                            rw [take_step hu, List.any_append, ← hq]
                            first
                              | (simp; done)
                              | (simp_all; done)
                        · skip
                          refine aExit rfl ?_
                          refine aSeq ?_
                          rw [take_all (by omega)] at hq
                          rw [hpi] at hq
                          refine aReg ?_
                          refine sp pM ?_
                          refine sp pNo ?_
                          refine oNil ?_
                          refine aCondNot rfl (fun c130 => ?_) (fun c130 => ?_)
                          · skip
                            refine aSeq ?_
                            refine aReg ?_
                            refine sp pMa ?_
                            refine oNil ?_
                            refine aRet ?_
                            exfalso
                            first
                              | (simp_all; done)
                              | (rw [hq] at *; simp_all; done)
                          · skip
                            refine aSkip ?_
                            refine aReg ?_
                            refine sp pM ?_
                            refine sp pAd ?_
                            refine sp pMa ?_
                            refine oNil ?_
                            refine ⟨i + 1, ?_, by (try dsimp only); omega, ⟨gInt rfl (by first | rfl | omega | simp), rfl, rfl, rfl, trivial⟩, _, (by repeat constructor)⟩
                            omega
          · skip
            refine aExit rfl ?_
            refine aSeq ?_
            refine aReg ?_
            refine sp (pBuild rfl st_121 ze_121 rfl rfl rfl rfl) ?_
            refine sp pM ?_
            refine sq ?_
            refine cv rfl rfl rfl (lents_refl _) (ec_Pick0 (n := n) hn0 hn1) ?_
            refine sp pB ?_
            refine sp pM ?_
            refine ga ?_
            refine (cv rfl rfl rfl (lents_refl _) law36_awake ?_).op
            refine sp pK ?_
            refine sp pMa ?_
            refine oNil ?_
            refine aRet ?_
            refine finIs rfl ?_
            rfl
end A
end Go.Proofs.Ytmcannmjielalaa
namespace Go.Proofs.Ytmcannmjielalaa.ecmpLeast
open Go.ChangeShapes Go.WideShapes Go.ChangeAt Go.RowKit Go.Proofs.Ytmcannmjielalaa.A
open Go.ChangeMaps (open_string shut_string)
set_option linter.unusedVariables false
theorem own : ownKnob Try.prog.godebug = none := by kernel_rfl
theorem laidOut : laidOutB Try.prog = true := A.laidAll
theorem fInPlace : (Rows.ecmpLeastRow.inPlace == Try.prog.inPlace 22) = true := by kernel_rfl
theorem fUnfollowed : (Rows.ecmpLeastRow.unfollowed == Try.prog.unfollowed 22) = true := by kernel_rfl
theorem fRecurses : (Rows.ecmpLeastRow.recurses == Try.prog.recurses 22) = true := by kernel_rfl
theorem fNamed : (Rows.ecmpLeastRow.named == Try.prog.varsNamed 22) = true := by kernel_rfl
theorem closed : joinedFacts Try.prog 22 Try.f22 Rows.ecmpLeastSpec Rows.ecmpLeastRow = true := by
  unfold joinedFacts
  simp only [Bool.and_eq_true]
  refine ⟨⟨⟨⟨⟨⟨⟨⟨⟨⟨⟨⟨⟨⟨⟨⟨⟨⟨⟨⟨⟨⟨⟨⟨⟨⟨⟨⟨⟨⟨⟨?_, A.laidAll⟩, A.mapsAll⟩, ?_⟩, ?_⟩, ?_⟩, ?_⟩, ?_⟩, ?_⟩, fInPlace⟩, fUnfollowed⟩, fRecurses⟩, fNamed⟩, ?_⟩, ?_⟩, ?_⟩, ?_⟩, ?_⟩, ?_⟩, ?_⟩, ?_⟩, ?_⟩, ?_⟩, ?_⟩, A.stopsAll⟩, A.mayE⟩, by rw [A.lifF]; kernel_rfl⟩, by rw [A.mkC]; kernel_rfl⟩, ?_⟩, ?_⟩, ?_⟩, ?_⟩
  all_goals kernel_rfl
set_option maxRecDepth 100000 in
theorem lifted (os : Os) (started : os.Started) (H : Type) (enc : TypeId × Value → H) :
    ReturnsInHanded {} Try.checked os 22 .any (Rows.ecmpLeastSpec.pre6 enc Try.prog Try.f22 Rows.ecmpLeastRow.domain false) (Rows.ecmpLeastSpec.post enc Try.prog Try.f22 false true false false) := by
  refine returnsInHanded_of_change_sized (C := Try.checked) own started (by kernel_rfl) Try.func22
    (ChangeSpec.witness6 (enc := enc) (C := Try.checked) false ⟨#[], #[.slice none 0 0, .int .i64 0, .int .u64 0], []⟩ 8 (by kernel_rfl) (by kernel_rfl) (by kernel_rfl) (by kernel_rfl)) ?_
  intro W base args ds gs before hval0 hW hcnd hsz0 _
  have hval : ∀ (j : Nat) t v, Try.f22.params[j]? = some t → args[j]? = some v → Value.okWide Try.prog W .any base t v := hval0
  have hW' := hW
  obtain ⟨p, q, hA0, hV, rfl, hfz, hnd⟩ := hW
  have hA : DataW.TrodAll enc Try.prog W 0 (fun _ => true) true Try.f22.params.toList args.toList ds p := hA0
  rw [Try.params22] at hA hval
  obtain ⟨v0, vs0, d0, ds0, p0, q0, hargs, rfl, rfl, h0, r0⟩ := trodAll_cons hA
  obtain ⟨v1, vs1, d1, ds1, p1, q1, rfl, rfl, rfl, h1, r1⟩ := trodAll_cons r0
  obtain ⟨v2, vs2, d2, ds2, p2, q2, rfl, rfl, rfl, h2, r2⟩ := trodAll_cons r1
  obtain ⟨rfl, rfl, rfl⟩ := trodAll_nil r2
  obtain rfl : args = #[v0, v1, v2] := by cases args; simp_all
  obtain ⟨rfl, rfl⟩ := trodVars_none hV
  have k0 := h0
  have lt0 : ∀ x ∈ p0, x.block < W.heap.size := by obtain ⟨m, hm⟩ := k0; exact DataW.trod_lt m _ _ _ hm
  have one0 : v0.oneCell' = true := by obtain ⟨_, _, _, rfl⟩ := okWide_slice Try.underlying22 (hval 0 22 v0 rfl rfl); rfl
  obtain ⟨a0, w0, rep0⟩ := argOne (opSlice Try.underlying22 (by kernel_rfl) (by decide) op_Arc) one0 h0
  have k1 := h1
  have lt1 : ∀ x ∈ p1, x.block < W.heap.size := by obtain ⟨m, hm⟩ := k1; exact DataW.trod_lt m _ _ _ hm
  have one1 : v1.oneCell' = true := by obtain ⟨_, rfl⟩ := okWide_int Try.underlying3 (hval 1 3 v1 rfl rfl); rfl
  obtain ⟨a1, w1, rep1⟩ := argOne (opInt Try.underlying3) one1 h1
  have k2 := h2
  have lt2 : ∀ x ∈ p2, x.block < W.heap.size := by obtain ⟨m, hm⟩ := k2; exact DataW.trod_lt m _ _ _ hm
  have one2 : v2.oneCell' = true := by obtain ⟨_, rfl⟩ := okWide_int Try.underlying37 (hval 2 37 v2 rfl rfl); rfl
  obtain ⟨a2, w2, rep2⟩ := argOne (opInt Try.underlying37) one2 h2
  refine (law_calls (law36_EcmpLeast (l := a0) (r := a1) (n := a2) w0.2 (u64_range w2).1 (u64_range w2).2) (reps_cons rep0 (reps_cons rep1 (reps_cons rep2 reps_nil)))).mono fun e W' ⟨he, bel⟩ => ?_
  subst he
  exact ⟨_, rfl, _, _, _, [], _, [], hW', trodAll_mk1 (shut_bool Try.underlying4 _), (trodAll_cons_mk (Below.trod laidOut (by kernel_rfl) (of_decide_eq_true (by kernel_rfl)) k0 bel lt0) (trodAll_cons_mk (Below.trod laidOut (by kernel_rfl) (of_decide_eq_true (by kernel_rfl)) k1 bel lt1) (trodAll_cons_mk (Below.trod laidOut (by kernel_rfl) (of_decide_eq_true (by kernel_rfl)) k2 bel lt2) trodAll_mk0))), rfl, bel.frame _, fun h => by cases h⟩
theorem over : Rows.ecmpLeastRow.holds Try.pinned (OpenSpec.ofChange Rows.ecmpLeastSpec) :=
  OpenClaim.holds_of_wide 22 Try.f22 rfl rfl rfl rfl rfl rfl rfl ⟨rfl, rfl, rfl, rfl, rfl⟩ rfl rfl rfl rfl rfl (by kernel_rfl) Try.func22 closed
    (of_decide_eq_true (by kernel_rfl)) (by unfold Func.isWrapper; first | (rw [if_pos (by decide +kernel)]; kernel_rfl) | (rw [if_neg (by decide +kernel)]; exact ⟨rfl, rfl⟩))
    (fun os started H enc _ => lifted os started H enc)
theorem proved : Rows.EcmpLeastSaid := over
#print axioms proved
end Go.Proofs.Ytmcannmjielalaa.ecmpLeast
