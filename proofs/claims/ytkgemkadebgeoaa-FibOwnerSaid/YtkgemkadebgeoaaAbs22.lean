/- slices.SortFunc at structs of whole numbers: the shelf's proof as a contract. Over any program. -/
import Derived.Test.YtkgemkadebgeoaaAbs21
import Derived.Test.YtkgemkadebgeoaaAbs13
import Derived.Shelf.SlSortCmp.WholeK
import Derived.Shelf.SlSortCmp.NoneTotal
set_option linter.unusedVariables false
set_option linter.unusedSimpArgs false
namespace Go.Proofs.Ytkgemkadebgeoaa
namespace A
open Go.Sort Go.Shelf Go.Lib Go.RowKit

theorem run_enter {P : Program} {g : FuncId} (hb : HasBody P g) (args : Array Value) (w : World) : (callFunc g args).run P w = .ok (.enter g args) w := by
  obtain ⟨fn, h1, h2, h3⟩ := hb
  have hn' : ¬ fn.name = "runtime.NumGoroutine" := by simpa using h2
  have hb' : ¬ fn.body = none := fun h => by rw [h] at h3; cases h3
  simp [callFunc, h1, hn', hb']

theorem rep_v {F : Nat → Prop} {w : World} {x y : Value} (h : Rep F w (.v x) y) : y = x := by cases h; rfl

theorem heap_sortedK {w : World} {b n : Nat} {os : Array Obj} {cur D : Array Value} {e : TypeId} (hb : w.heap[b]? = some (.cells cur e (0, 0))) :
    (grow (putRow id (Sort.ahead w n) b 0 D) os).heap[b]? = some (.cells (putCells id 0 D cur) e (0, 0)) := by
  have hg : b < w.heap.size := (Array.getElem?_eq_some_iff.1 hb).1
  rw [heap_grow_old _ _ (by simpa using hg)]
  simp [putRow, mapBlock, Sort.ahead, Array.getElem?_modify, hb, onCells]
theorem grownBy_sortedK {w : World} {b n : Nat} {os : Array Obj} (D : Array Value) : w.grownBy (grow (putRow id (Sort.ahead w n) b 0 D) os) (some b) := by
  refine ⟨rfl, rfl, rfl, by simp, fun k hk hne => ?_⟩
  rw [heap_grow_old _ _ (by simpa using hk)]
  have : b ≠ k := fun e => hne (by rw [e])
  simp [putRow, mapBlock, Sort.ahead, Array.getElem?_modify, this]
theorem take_putCellsK (cur D : Array Value) (h : D.size ≤ cur.size) : (putCells id 0 D cur).toList.take D.size = D.toList := by
  apply List.ext_getElem?
  intro j
  by_cases hj : j < D.size
  · rw [List.getElem?_take_of_lt hj, Array.getElem?_toList]
    simp [putCells, hj, show j < cur.size by omega]
  · rw [List.getElem?_take_eq_none (by omega), List.getElem?_eq_none (by simp; omega)]

theorem cmp_lays {α : Type} [Inhabited α] {P : Program} {g : FuncId} {fC : α → List AV} {enc : α → List Value} {k : Nat} {cf : α → α → Int} {b size : Nat} {w : World} (hfe : ∀ x, fC x = (enc x).map .v) (h1 : ∀ x, ∀ v ∈ enc x, v.oneCell' = true)
    (hT : ∀ x y, Triple P g [.agg (fC x), .agg (fC y)] [] (Is (.int (cf x y)) [])) : CmpLays P g #[] enc k cf b 0 size w := by
  intro m os dk hs x y
  have hagg : ∀ z, Rep (fun _ => False) (sortWorldK enc k w b 0 m dk os) (.agg (fC z)) (.agg (enc z).toArray) := fun z => by
    refine .agg _ _ (by rw [hfe]; simp) (fun v hv => h1 z v (by simpa using hv)) (fun j av v hj hv => ?_)
    rw [hfe, List.getElem?_map, Option.map_eq_some_iff] at hj
    obtain ⟨u, hu, rfl⟩ := hj
    have : (enc z)[j]? = some v := by simpa using hv
    rw [hu] at this
    cases this
    exact .v _
  refine ((hT x y).2 (fun _ => False) (sortWorldK enc k w b 0 m dk os) #[.agg (enc x).toArray, .agg (enc y).toArray] ⟨fun x hx => by simp at hx, by simp, fun b hb => by simp at hb, fun b hb => hb.elim⟩ ?_).mono ?_
  · exact reps_cons (vs := [.agg (enc y).toArray]) (hagg x) (reps_cons (vs := []) (hagg y) reps_nil)
  · rintro ex w' ⟨r, v, h', F', rfl, ⟨rfl, rfl⟩, hr, hR, hE⟩
    have := rep_v hr
    subst this
    generalize hW : sortWorldK enc k w b 0 m dk os = W at hE
    refine ⟨rfl, w'.drawn - W.drawn, w'.heap.extract W.heap.size w'.heap.size, ?_⟩
    have hd := hE.dr
    have hh : w'.heap = W.heap ++ w'.heap.extract W.heap.size w'.heap.size := by
      apply Array.ext_getElem?
      intro j
      by_cases hj : j < W.heap.size
      · rw [Array.getElem?_append_left hj]
        exact hE.keep j hj (by simp)
      · rw [Array.getElem?_append_right (by omega), Array.getElem?_extract]
        by_cases hj2 : j < w'.heap.size
        · rw [if_pos (by omega)]
          congr 1
          omega
        · rw [if_neg (by omega), Array.getElem?_eq_none (by omega)]
    obtain ⟨hp, tp, dr, ww, ou⟩ := w'
    obtain ⟨hp0, tp0, dr0, ww0, ou0⟩ := W
    have e1 := hE.os
    have e2 := hE.output
    have e3 := hE.tape
    simp only at e1 e2 e3 hd hh
    subst e1
    subst e2
    subst e3
    simp only [grow, World.drewN, World.mk.injEq, true_and, and_true]
    exact ⟨hh, by omega⟩

theorem mul_add_div {i j k : Nat} (h : j < k) : (i * k + j) / k = i := by
  rw [Nat.mul_comm, Nat.mul_add_div (by omega), Nat.div_eq_of_lt h, Nat.add_zero]
theorem mul_add_mod {i j k : Nat} (h : j < k) : (i * k + j) % k = j := by
  rw [Nat.mul_comm, Nat.mul_add_mod, Nat.mod_eq_of_lt h]

theorem triple_sortFunc {α : Type} [Inhabited α] {P : Program} {ρ : Ren} {f g : FuncId} (L : SlLaysF0.n6 P ρ) (hf : ρ.f 6 = f) (hb : HasBody P f) {k t : Nat} (ht : ρ.t 24 = t) (hty : tyOf P t = some (k, true)) (h0 : 0 < k) {fC : α → List AV} (enc : α → List Value) (hfe : ∀ x, fC x = (enc x).map .v) (hk : ∀ x, (enc x).length = k) (h1 : ∀ x, ∀ v ∈ enc x, v.oneCell' = true)
    (cf : α → α → Int) (hO : SWO (ltOf cf)) (hT : ∀ x y, Triple P g [.agg (fC x), .agg (fC y)] [] (Is (.int (cf x y)) [])) (hg : HasBody P g) (gg : Option Nat) (c e : Nat) (ws : List α) (hz : ws.length < 4611686018427387904) :
    Triple P f [.v (slV gg ws.length c), .fn (.func g) []] [.sl gg c e k (ws.map fC)] (fun r h' => ∃ ts : List α, ts.Perm ws ∧ ts.Pairwise (fun x y => ltOf cf y x = false) ∧ r = .tup [] ∧ h' = [.sl gg c e k (ts.map fC)]) := by
  subst hf
  subst ht
  refine ⟨hb, fun F w vs hR hreps => ?_⟩
  obtain ⟨hv1, hv2⟩ := hreps
  obtain ⟨x, y, rfl⟩ : ∃ x y, vs = #[x, y] := by
    match vs, hv1 with
    | ⟨[x, y]⟩, _ => exact ⟨x, y, rfl⟩
  have hx := hv2 0 _ x rfl rfl
  have hy := hv2 1 _ y rfl rfl
  have hx := rep_v hx
  subst hx
  obtain rfl : y = .func (.func g) #[] #[] := by
    cases hy with
    | fn _ _ cx hcl _ =>
      obtain rfl : cx = #[] := Array.eq_empty_of_size_eq_zero (by simpa using hcl)
      rfl
  have hha := hR.rep _ (List.mem_singleton.2 rfl)
  have hlen : (ws.map fC).length = ws.length := List.length_map _
  have aE : ∀ w, (isAgg (ρ.t 24)).run P w = .ok true w := fun w => run_isAgg hty w
  have zE : ∀ w, (Go.sizeOf (ρ.t 24)).run P w = .ok k w := fun w => run_sizeOf hty w
  match gg with
  | none =>
    have hn : ws = [] := by
      obtain ⟨xs, ho, _⟩ := hha
      rcases ho.2 with ⟨_, h⟩ | ⟨b, _, _, h, _⟩
      · exact List.eq_nil_of_length_eq_zero (by simpa using h)
      · simp [slV] at h
    subst hn
    refine (AnyF.slices_SortFunc_none L none c (.func (.func g) #[] #[]) w).mono ?_
    rintro ex w' ⟨rfl, rfl⟩
    exact ⟨.tup [], .tuple #[], _, F, rfl, ⟨[], .nil, .nil, rfl, rfl⟩, .tup _ _ rfl (fun j av x hj => by simp at hj), hR, .refl _ _ _⟩
  | some b =>
    obtain ⟨cur, hg0, hnc, hcm, hcs, hyz, hrest⟩ := row_of hha
    obtain ⟨xs, hxl, _, hx1, hxc, hxr⟩ := own_cells hha
    rw [hlen] at hxl hnc
    have hflat : ∀ j, j < ws.length * k → xs[j]? = some ((flatK enc k ws.toArray)[j]!) := fun j hj => by
      have hjx : j < xs.length := by omega
      have hi : j / k < ws.length := by rw [Nat.div_lt_iff_lt_mul h0]; exact hj
      have hm : j % k < k := Nat.mod_lt _ h0
      have e1 : (ws.map fC)[j / k]? = some (fC ws[j / k]) := by simp [hi]
      have e2 : (fC ws[j / k])[j % k]? = some (.v ((enc ws[j / k])[j % k]'(by rw [hk]; exact hm))) := by rw [hfe]; simp [hk, hm]
      have e3 : xs[j / k * k + j % k]? = some xs[j] := by rw [Nat.div_add_mod']; exact List.getElem?_eq_getElem hjx
      have := rep_v (hxr _ _ _ _ _ e1 e2 e3)
      rw [List.getElem?_eq_getElem hjx, this, get_flatK _ _ _ _ (by simpa using hj)]
      simp [hi, hk, hm]
    have hH : HoldsK enc k w b 0 ws.toArray := by
      intro j hj
      have hj' : j < ws.length * k := by simpa using hj
      refine ⟨?_, by simp [World.frozen?, hg0]⟩
      rw [Nat.zero_add]
      exact hxc j _ (hflat j hj')
    have hlt : b < w.heap.size := hR.lt b (by simp [HA.own])
    refine (AnyQ.slices_SortFunc L k aE zE enc hk h1 cf hO g #[] b 0 c ws.toArray w (run_enter hg) (cmp_lays hfe h1 hT) hH hlt (by simpa using hz)).mono ?_
    rintro ex w' ⟨rfl, d', n, os, hp, hs, rfl⟩
    have hsz : d'.size = ws.length := by simpa using hp.1
    have hperm : d'.toList.Perm ws := by
      have := hp.2.2
      simp only [List.size_toArray] at this
      simp only [Array.toList_extract, List.drop_zero, List.extract_eq_take_drop, Nat.sub_zero] at this
      rw [List.take_of_length_le (by simp [hsz]), List.take_of_length_le (by simp)] at this
      exact this
    have hpair : d'.toList.Pairwise (fun x y => ltOf cf y x = false) := by
      rw [List.pairwise_iff_getElem]
      intro i j hi hj hij
      have hj' : j < d'.size := by simpa using hj
      have := hs i j (Nat.zero_le _) hij (by simpa [hsz] using hj')
      rw [getElem!_pos d' j hj', getElem!_pos d' i (by omega)] at this
      simpa using this
    have hgr := grownBy_sortedK (n := n) (os := os) (b := b) (w := w) (flatK enc k d')
    have hset : ∀ k', F k' → (grow (putRow id (Sort.ahead w n) b 0 (flatK enc k d')) os).heap[k']? = w.heap[k']? := fun k' hk' => hgr.block k' (hR.sep k' hk').1 (fun e => (hR.sep k' hk').2 (by simp at e; simp [HA.own, e]))
    have hfs : (flatK enc k d').size = ws.length * k := by simp [hsz]
    have hcap : (flatK enc k d').size ≤ cur.size := by rw [hfs, hcs]; exact Nat.mul_le_mul_right _ hnc
    refine ⟨.tup [], .tuple #[], _, F, rfl, ⟨d'.toList, hperm, hpair, rfl, rfl⟩, .tup _ _ rfl (fun j av x hj => by simp at hj), ⟨fun y hy => ?_, by simp [HA.own], fun k' hk' => ?_, fun k' hk' => ⟨Nat.lt_of_lt_of_le (hR.sep k' hk').1 hgr.size, fun hm => (hR.sep k' hk').2 (by simpa [HA.own] using hm)⟩⟩, ⟨hgr.os, hgr.output, hgr.tape, hgr.size, fun k' hk' hn => hgr.block k' hk' (fun e => hn (by simp at e; simp [HA.own, e])), fun k' hk' => .inl (by simpa [HA.own] using hk'), fun _ h => h, fun _ h => .inl h, by show w.drawn ≤ w.drawn + n; omega⟩⟩
    · rw [List.mem_singleton] at hy
      subst hy
      have e1 : (d'.toList.map fC).length = ws.length := by simp [hsz]
      have hget : ∀ i j v, i < ws.length → j < k → (flatK enc k d').toList[i * k + j]? = some v → ∃ u, d'[i]? = some u ∧ (enc u)[j]? = some v := fun i j v hi hj hv => by
        have hlt2 : i * k + j < d'.size * k := by rw [hsz]; exact idx_lt hi hj
        rw [Array.getElem?_toList, Array.getElem?_eq_getElem (by simpa using hlt2)] at hv
        have hv := Option.some.inj hv
        rw [← getElem!_pos (flatK enc k d') (i * k + j) (by simpa using hlt2), get_flatK _ _ _ _ hlt2, mul_add_div hj, mul_add_mod hj] at hv
        refine ⟨d'[i]!, by rw [getElem!_pos d' i (by omega)]; exact Array.getElem?_eq_getElem (by omega), ?_⟩
        rw [← hv, getElem!_pos (enc d'[i]!) j (by rw [hk]; exact hj)]
        exact List.getElem?_eq_getElem _
      refine ⟨(flatK enc k d').toList, ⟨by rw [Array.length_toList, hfs, e1], .inr ⟨b, c, _, by rw [e1]; rfl, Nat.zero_le _, heap_sortedK hg0, by rw [e1]; exact hnc, hcm, by simp [putCells, hcs], ?_⟩⟩, fun y hy => ?_, fun x hx => ?_, ?_⟩
      · rw [e1, ← hfs]; exact take_putCellsK cur _ hcap
      · obtain ⟨z, _, rfl⟩ := List.mem_map.1 hy; rw [hfe]; simp [hk]
      · obtain ⟨j, hj⟩ := List.mem_iff_getElem?.1 hx
        have hj2 : j < ws.length * k := by have := (List.getElem?_eq_some_iff.1 hj).1; simpa [hsz] using this
        have hm : j % k < k := Nat.mod_lt _ h0
        have := hget (j / k) (j % k) x (by rw [Nat.div_lt_iff_lt_mul h0]; exact hj2) hm (by rw [Nat.div_add_mod']; exact hj)
        obtain ⟨u, _, hu⟩ := this
        exact h1 u x (List.mem_of_getElem? hu)
      · intro i j y av x hi hj hx
        rw [List.getElem?_map, Option.map_eq_some_iff] at hi
        obtain ⟨z, hz, rfl⟩ := hi
        have hil : i < ws.length := by have := (List.getElem?_eq_some_iff.1 hz).1; simpa [hsz] using this
        rw [hfe, List.getElem?_map, Option.map_eq_some_iff] at hj
        obtain ⟨u, hu, rfl⟩ := hj
        have hjk : j < k := by have := (List.getElem?_eq_some_iff.1 hu).1; rwa [hk] at this
        obtain ⟨z', hz', hx'⟩ := hget i j x hil hjk hx
        have : z' = z := by
          rw [Array.getElem?_toList] at hz
          rw [hz] at hz'
          exact (Option.some.inj hz').symm
        subst this
        rw [hu] at hx'
        cases hx'
        exact .v _
    · have : k' = b := by simpa [HA.own] using hk'
      subst this
      exact Nat.lt_of_lt_of_le hlt hgr.size

end A
end Go.Proofs.Ytkgemkadebgeoaa
